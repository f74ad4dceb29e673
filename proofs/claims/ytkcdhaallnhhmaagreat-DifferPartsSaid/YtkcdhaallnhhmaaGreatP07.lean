/- Part 7 of the proof: Fresh, CallPlain, IdRef, Node. -/
import Derived.ArgAppend
import Derived.Lib.SliceRun
import Derived.Shelf.SlSorted.Search
import Derived.Test.YtkcdhaallnhhmaaGreatP04
import Derived.Test.YtkcdhaallnhhmaaGreatP06
namespace Go.Proofs.YtkcdhaallnhhmaaGreat
set_option linter.unusedSimpArgs false
set_option linter.unusedVariables false
set_option linter.unusedSectionVars false
set_option maxRecDepth 100000
set_option maxHeartbeats 16000000
section
open Go.RowKit Go.Lib
section
variable {α:Type} {t e:TypeId} {n bytes:Nat} {z:Value} {f:α→List Value}
def SRow (f:α→List Value) (e:TypeId) (n:Nat) (w:World) (v:Value) (l:List α) (fp:List Nat):Prop:=OwnL f e n 0 w v l∧fp=v.ownBlock.toList
theorem SRow.form {w:World} {v:Value} {l:List α} {fp:List Nat} (h:SRow f e n w v l fp):∃A c,v=.slice A l.length c:=h.1.form
theorem SRow.row (E:EltOf t e n bytes z f) {w:World} {v:Value} {l:List α} {fp:List Nat} (h:SRow f e n w v l fp):RowIn n f w v l:=h.1.row E
theorem SRow.kept {w w':World} {v:Value} {l:List α} {fp:List Nat} (h:SRow f e n w v l fp) (hb:∀r∈fp,w'.heap[r]?=w.heap[r]?):SRow f e n w' v l fp:=by
 obtain ⟨h,rfl⟩:=h;exact ⟨h.kept (fun r hr=>hb r (by rw [hr];simp)),rfl⟩
theorem SRow.lt {w:World} {v:Value} {l:List α} {fp:List Nat} (h:SRow f e n w v l fp):∀r∈fp,r<w.heap.size:=by
 obtain ⟨h,rfl⟩:=h;intro r hr;have:v.ownBlock=some r:=by simpa using hr
 exact (h.lt this).2
theorem SRow.below {w w':World} {v:Value} {l:List α} {fp:List Nat} (h:SRow f e n w v l fp) (hb:jB w w'):SRow f e n w' v l fp:=h.kept (fun r hr=>hb.block r (h.lt r hr))
theorem SRow.nil (w:World):SRow f e n w (.slice none 0 0) ([]:List α) []:=⟨OwnL.nil _ _,rfl⟩
theorem SRow.of (w:World) {v:Value} {l:List α} {base:Nat} (h:OwnL f e n base w v l):SRow f e n w v l v.ownBlock.toList:=⟨h.lower (Nat.zero_le _),rfl⟩
end
structure Upd (w w':World) (fp fp':List Nat):Prop where
 os:w'.os=w.os
 tape:w'.tape=w.tape
 output:w'.output=w.output
 size:w.heap.size≤w'.heap.size
 block:∀k,k<w.heap.size→k∉fp→w'.heap[k]?=w.heap[k]?
 fresh:∀k∈fp',k∈fp∨w.heap.size≤k
theorem Upd.refl (w:World) (fp:List Nat):Upd w w fp fp:=⟨rfl,rfl,rfl,Nat.le_refl _,fun _ _ _=>rfl,fun _ h=>.inl h⟩
theorem Upd.trans {w a b:World} {fp fq fr:List Nat} (h:Upd w a fp fq) (k:Upd a b fq fr):Upd w b fp fr :=
 ⟨k.os.trans h.os,k.tape.trans h.tape,k.output.trans h.output,Nat.le_trans h.size k.size,
   fun i hi hn=>(k.block i (Nat.lt_of_lt_of_le hi h.size) (fun hq=>(h.fresh i hq).elim hn (fun h'=>by omega))).trans (h.block i hi hn),
   fun i hi=>(k.fresh i hi).elim (h.fresh i) (fun h'=>.inr (Nat.le_trans h.size h'))⟩
theorem Upd.of_below {w w':World} (h:jB w w') (fp:List Nat):Upd w w' fp fp:=⟨h.os,h.tape,h.output,h.size,fun k hk _=>h.block k hk,fun _ h=>.inl h⟩
theorem Upd.below {w w':World} {fp fp':List Nat} {B:Nat} (h:Upd w w' fp fp') (hB:B≤w.heap.size) (hf:∀k∈fp,B≤k):Below B w w' :=
 ⟨h.os,h.tape,h.output,h.size,fun k hk=>h.block k (by omega) (fun hk'=>by have:=hf k hk';omega)⟩
theorem Upd.mono {w w':World} {fp fp' fq fq':List Nat} (h:Upd w w' fp fp') (h1:∀k∈fp,k∈fq) (h2:∀k∈fq',k∈fq∨w.heap.size≤k):Upd w w' fq fq' :=
 ⟨h.os,h.tape,h.output,h.size,fun k hk hn=>h.block k hk (fun hk'=>hn (h1 k hk')),h2⟩
def CloneS {α:Type} (f:α→List Value) (e:TypeId) (n:Nat) (w:World) (l:List α) (en:Ending) (w':World):Prop :=
 ∃A c fp,en=.returned (.slice A l.length c)∧SRow f e n w' (.slice A l.length c) l fp∧(∀k∈fp,w.heap.size≤k)∧jB w w'
structure Adv where
 tick:Int
 load:Int
 want:Int
 repl:Int
 why:Int
def adv0:Adv:=⟨0,0,0,0,0⟩
def advC (a:Adv):List Value:=[.int .i64 a.tick,.int .i64 a.load,.int .i64 a.want,.int .i64 a.repl,.int .i64 a.why]
theorem eAdv:EltOf 44 74 5 40 (.agg #[.int .i64 0,.int .i64 0,.int .i64 0,.int .i64 0,.int .i64 0]) advC :=
 ⟨by kernel_rfl,by kernel_rfl,rfl,by decide,by decide,fun _=>rfl,fun x u hu=>by
  simp only [advC,List.mem_cons,List.not_mem_nil,or_false] at hu
  rcases hu with rfl|rfl|rfl|rfl|rfl <;> rfl⟩
theorem cloneS_any (v:Value) (l:List Smp) (w:World) (hv:RowIn 2 smpC w v l) (hl:l.length≤1000000) :
 Calls Tryz.prog 116 #[v] w (CloneS smpC 118 2 w l):=by
 obtain ⟨A,c,rfl⟩:=hv.form
 cases A with
 | none =>
   have h0:l.length=0:=by
    obtain ⟨A1,c1,e1,_,hr⟩:=hv;injection e1 with e1 _ _
    rcases Nat.eq_zero_or_pos l.length with h|h
    · exact h
    · obtain ⟨_,_,hA,_⟩:=hr h;rw [hA] at e1;cases e1
   obtain rfl:l=[]:=List.eq_nil_of_length_eq_zero h0;have hq:∀W,(binOp .eql 43 (.slice none 0 c) (.slice none 0 0)).run Tryz.prog W=.ok (.bool true) W:=fun W=>Lib.run_eql_slice_nil W _ _ none 0 c 0 0 eSmp.ht
   clear hv h0
   go_enter Tryz.func116,Tryz.ntmps116
   go_wp2
   go_ret
   exact ⟨none,0,[],rfl,SRow.nil _,fun k hk=>by simp at hk,jR⟩
 | some ad =>
   have HV:=jH hv;have hq:∀W,(binOp .eql 43 (.slice (some ad) l.length c) (.slice none 0 0)).run Tryz.prog W=.ok (.bool false) W:=fun W=>Lib.run_eql_slice_nil W _ _ (some ad) l.length c 0 0 eSmp.ht
   clear hv
   go_enter Tryz.func116,Tryz.ntmps116
   go_wp2_with (at_builtin;refine wpList_appendL eSmp (by rfl) (s:=.tmp 5) (x:=.tmp 6) (by rfl) w.heap.size [] l _ _ (by rfl) (by rfl) (OwnL.lit0 _ w _ _ rfl (Nat.le_refl _)) (HV.out.below (balloc jR _)) (by simp;omega) (by simp) ?_;intro out A2 c2 w2 hout hown hg _;have HOUT:=jH hout;have HO:=jH hown;have HG:=jH hg;clear hout hown hg)
   go_ret
   have e1:out=l:=by rw [HOUT.out];rfl
   subst e1;exact ⟨A2,c2,_,rfl,SRow.of _ HO.out,fun k hk=>(HO.out.lt (by simpa using hk)).1,(balloc jR _).trans (grown_below HG.out (by simp) (fun r hr=>by have hr':some w.heap.size=some r:=hr;injection hr';omega))⟩
theorem cloneA_any (v:Value) (l:List Adv) (w:World) (hv:RowIn 5 advC w v l) (hl:l.length≤1000000) :
 Calls Tryz.prog 178 #[v] w (CloneS advC 74 5 w l):=by
 obtain ⟨A,c,rfl⟩:=hv.form
 cases A with
 | none =>
   have h0:l.length=0:=by
    obtain ⟨A1,c1,e1,_,hr⟩:=hv;injection e1 with e1 _ _
    rcases Nat.eq_zero_or_pos l.length with h|h
    · exact h
    · obtain ⟨_,_,hA,_⟩:=hr h;rw [hA] at e1;cases e1
   obtain rfl:l=[]:=List.eq_nil_of_length_eq_zero h0;have hq:∀W,(binOp .eql 44 (.slice none 0 c) (.slice none 0 0)).run Tryz.prog W=.ok (.bool true) W:=fun W=>Lib.run_eql_slice_nil W _ _ none 0 c 0 0 eAdv.ht
   clear hv h0
   go_enter Tryz.func178,Tryz.ntmps178
   go_wp2
   go_ret
   exact ⟨none,0,[],rfl,SRow.nil _,fun k hk=>by simp at hk,jR⟩
 | some ad =>
   have HV:=jH hv;have hq:∀W,(binOp .eql 44 (.slice (some ad) l.length c) (.slice none 0 0)).run Tryz.prog W=.ok (.bool false) W:=fun W=>Lib.run_eql_slice_nil W _ _ (some ad) l.length c 0 0 eAdv.ht
   clear hv
   go_enter Tryz.func178,Tryz.ntmps178
   go_wp2_with (at_builtin;refine wpList_appendL eAdv (by rfl) (s:=.tmp 5) (x:=.tmp 6) (by rfl) w.heap.size [] l _ _ (by rfl) (by rfl) (OwnL.lit0 _ w _ _ rfl (Nat.le_refl _)) (HV.out.below (balloc jR _)) (by simp;omega) (by simp) ?_;intro out A2 c2 w2 hout hown hg _;have HOUT:=jH hout;have HO:=jH hown;have HG:=jH hg;clear hout hown hg)
   go_ret
   have e1:out=l:=by rw [HOUT.out];rfl
   subst e1;exact ⟨A2,c2,_,rfl,SRow.of _ HO.out,fun k hk=>(HO.out.lt (by simpa using hk)).1,(balloc jR _).trans (grown_below HG.out (by simp) (fun r hr=>by have hr':some w.heap.size=some r:=hr;injection hr';omega))⟩
end
section
open Go.RowKit Go.Lib
structure Cfg where
 st:Int
 sa:Int
 lo:Int
 hi:Int
structure Pol where
 mn:Int
 mx:Int
 tg:Int
 tol:Int
 win:Int
 hold:Int
structure CallD where
 kind:Int
 id:ByteArray
 tick:Int
 val:Int
 handle:Int
 pol:Pol
def I64 (n:Int):Prop:=-9223372036854775808≤n∧n≤9223372036854775807
def Cfg.ok (c:Cfg):Prop:=I64 c.st∧I64 c.sa∧I64 c.lo∧I64 c.hi
def Pol.ok (p:Pol):Prop:=I64 p.mn∧I64 p.mx∧I64 p.tg∧I64 p.tol∧I64 p.win∧I64 p.hold
def CallD.ok (c:CallD):Prop:=I64 c.kind∧c.id.size≤maxLen∧I64 c.tick∧I64 c.val∧I64 c.handle∧c.pol.ok
def cfgV (c:Cfg):Value:=.agg #[.int .i64 c.st,.int .i64 c.sa,.int .i64 c.lo,.int .i64 c.hi]
def polV (p:Pol):Value:=.agg #[.int .i64 p.mn,.int .i64 p.mx,.int .i64 p.tg,.int .i64 p.tol,.int .i64 p.win,.int .i64 p.hold]
def callV (c:CallD):Value:=.agg #[.int .i64 c.kind,.string c.id,.int .i64 c.tick,.int .i64 c.val,.int .i64 c.handle,.int .i64 c.pol.mn,.int .i64 c.pol.mx,.int .i64 c.pol.tg,.int .i64 c.pol.tol,.int .i64 c.pol.win,.int .i64 c.pol.hold]
def okSt (n:Int):Bool:=n == 1 || (n == 2 || (n == 4 || (n == 8 || (n == 16 || (n == 32 || n == 64)))))
def cfgB (c:Cfg):Bool:=okSt c.st && decide (1≤c.sa∧c.sa≤256∧1≤c.lo∧c.lo≤256∧1≤c.hi∧c.hi≤64)
def cfgE (c:Cfg):Int:=if cfgB c=true then 0 else 1
def serE (t v:Int):Int:=if t<0 then 3 else if v<0 then 4 else 0
def polB (p:Pol):Bool:=decide (0≤p.mn∧1≤p.mx∧p.mn≤p.mx∧p.mx≤1073741824∧1≤p.tg∧0≤p.tol∧p.tol≤999∧1≤p.win∧0≤p.hold)
def polE (p:Pol):Int:=if polB p=true then 0 else 7
def chkC (c:CallD):Int :=
 if c.kind<1∨8<c.kind then 14
 else if (c.kind=1∨c.kind=5∨c.kind=6∨c.kind=7)∧idS c.id=false then 2
 else if c.kind=1 then serE c.tick c.val
 else if c.kind=2∧c.tick<0 then 3
 else if c.kind=6∧polB c.pol=false then 7
 else 0
theorem okSt_iff (n:Int):okSt n=true ↔ n=1∨n=2∨n=4∨n=8∨n=16∨n=32∨n=64:=by
 simp [okSt]
def bitsI (n:Int):Int:=if n=1 then 0 else if n=2 then 1 else if n=4 then 2 else if n=8 then 3 else if n=16 then 4 else if n=32 then 5 else if n=64 then 6 else -1
theorem bitsI_pow:∀k,k<7→bitsI ((2 ^ k:Nat):Int)=(k:Nat):=by decide
theorem okSt_bd (n:Int) (h:okSt n=true):1≤n∧n≤64:=by
 have:=(okSt_iff n).1 h;omega
theorem st_and:∀k,k<65→1≤k→(bits BinOp.and IntKind.i64 ((k:Nat):Int) ((k:Nat) - 1:Int) == 0)=okSt ((k:Nat):Int):=by decide
end
section
open Go.RowKit Go.Lib
def beforeL:List UInt8→List UInt8→Bool
  | a::l,b::m=>if a=b then beforeL l m else decide (a.toNat<b.toNat)
  | [],_::_=>true
  | _,[]=>false
def beforeS (s t:ByteArray):Bool:=beforeL s.data.toList t.data.toList
end
section
open Go.RowKit Go.Lib Go.Sort
structure Nd where
 pol:Pol
 ruled:Bool
 ver:Nat
 smp:List Smp
 past:List Adv
 frz:Bool
def pol0:Pol:=⟨0,0,0,0,0,0⟩
def nd0:Nd:=⟨pol0,false,0,[],[],false⟩
end
end Go.Proofs.YtkcdhaallnhhmaaGreat
