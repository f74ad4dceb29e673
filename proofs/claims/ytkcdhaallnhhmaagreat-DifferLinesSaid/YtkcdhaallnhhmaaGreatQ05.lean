/- Part 5 of the proof: QState, DecP, IdRef, Node, IFifo, MapRange, IKeys, WideP, High, HeldE. -/
import Derived.Maps.Range
import Derived.RangeFuncSeq
import Derived.Shelf.SlLaysW
import Derived.Sort.MapsRangeIn
import Derived.Lib.MinMax
import Derived.Deep.RegionHeld
import Derived.Test.YtkcdhaallnhhmaaGreatQ04
namespace Go.Proofs.YtkcdhaallnhhmaaGreat
set_option linter.unusedSimpArgs false
set_option linter.unusedVariables false
set_option linter.unusedSectionVars false
set_option maxRecDepth 100000
set_option maxHeartbeats 16000000
section
open Go.RowKit Go.Lib
open Go.ChangeMaps (setBlock)
open Go.Maps (Keyed)
abbrev KO:={ p:Ky // p.ok }
theorem setBlock_other {w:World} {d k:Nat} {o:Obj} (h:k≠d):(setBlock w d o).heap[k]?=w.heap[k]?:=by
 simp [setBlock,Array.getElem?_setIfInBounds,Ne.symm h]
theorem setBlock_size {w:World} {d:Nat} {o:Obj}:(setBlock w d o).heap.size=w.heap.size:=by simp [setBlock]
end
section
open Go.RowKit Go.Lib
theorem meanN_least {l:List Int} (h:l≠[]) (m:Nat):totN l≤m * l.length ↔ meanN l≤m:=by
 have hp:0<l.length:=List.length_pos_iff.2 h;unfold meanN;rw [if_neg h]
 constructor
 · intro q
   apply Nat.le_of_lt_succ
   rw [Nat.div_lt_iff_lt_mul hp,Nat.succ_mul];omega
 · intro q
   have:=(Nat.div_lt_iff_lt_mul hp).1 (Nat.lt_succ_of_le q);rw [Nat.succ_mul] at this;omega
def nearI (p:Pol) (load now:Int):Bool :=
 polB p && (decide (1≤now∧now≤1073741824) &&
   (decide (load.toNat * 1000≤now.toNat * p.tg.toNat * 1000+now.toNat * p.tg.toNat * p.tol.toNat) &&
    decide (now.toNat * p.tg.toNat * 1000≤load.toNat * 1000+now.toNat * p.tg.toNat * p.tol.toNat)))
def wantP (p:Pol) (load:Int):Int:=if polB p=true then ceilI (max load 0) p.tg else 0
def boundI (p:Pol) (n:Int):Int:=if polB p=true then clampI n p.mn p.mx else 0
def openI (p:Pol) (load now:Int):Int:=if nearI p load now=true then now else wantP p load
def highS (a b:Int) (s:Int × Bool) (x:Adv):Int × Bool :=
 if a<x.tick∧x.tick≤b∧(s.2=false∨s.1<x.want) then (x.want,true) else s
def highI (l:List Adv) (tick hold:Int):Int × Bool:=l.foldl (highS (endsI (tick - hold)) tick) (0,false)
theorem highI_snoc (l:List Adv) (x:Adv) (a b:Int) (s:Int × Bool):(l++[x]).foldl (highS a b) s=highS a b (l.foldl (highS a b) s) x:=by simp
def steadyI (p:Pol) (tick want:Int) (past:List Adv):Int × Bool :=
 if (highI past tick p.hold).2=true∧want<(highI past tick p.hold).1 then ((highI past tick p.hold).1,true) else (want,false)
def latestI:List Smp→Int
  | []=>0
  | s::l=>l.foldl (fun b x=>max b x.1) s.1
def nowI (p:Pol) (past:List Adv):Int:=match past.getLast? with
 | none=>p.mn
 | some a=>a.repl
def whyI (p:Pol) (held:Bool) (op now til:Int):Int :=
 if held=true then 4 else if p.mx<op then 6 else if op<p.mn then 5 else if now<til then 2 else if til<now then 3 else 1
def decI (p:Pol) (l:List Smp) (past:List Adv):Adv × Int :=
 if polB p=false then (adv0,7)
 else if l=[] then (adv0,5)
 else
  let tick:=latestI l
  let load:Int:=(meanN (valsW (winC l (fromW tick p.win) tick)):Nat)
  let now:=nowI p past
  let op:=openI p load now
  let want:=boundI p op
  let st:=steadyI p tick want past
  let til:=boundI p st.1
  (⟨tick,load,want,til,whyI p st.2 op now til⟩,0)
end
section
open Go.RowKit Go.Lib
def lettersL:List UInt8:=[45,46,48,49,50,51,52,53,54,55,56,57,95,97,98,99,100,101,102,103,104,105,106,107,108,109,110,111,112,113,114,115,116,117,118,119,120,121,122]
theorem letters_code:∀i,i<39→codeB (lettersL.getD i 0)=i+1:=by decide
theorem place_none (c:UInt8) (h:∀j,j<39→lettersL.getD j 0≠c):codeB c=0:=by
 rcases Nat.eq_zero_or_pos (codeB c) with h0|h0
 · exact h0
 · have hle:=codeB_le c
   have e:=letters_code (codeB c - 1) (by omega);refine absurd ?_ (h (codeB c - 1) (by omega));have hok:okB (lettersL.getD (codeB c - 1) 0)=true:=by rw [okB,decide_eq_true_eq];omega
   exact codeB_inj _ _ hok (by omega)
def lettersS:ByteArray:=⟨lettersL.toArray⟩
theorem lettersS_get (k:Nat) (h:k<lettersS.size):lettersS[k]=lettersL.getD k 0:=by
 have h':k<lettersL.length:=h;simp only [List.getD,List.getElem?_eq_getElem h',Option.getD_some]
 rfl
theorem place_any (c:UInt8) (w:World) :
 Calls Tryz.prog 158 #[.int .u8 (c.toNat:Nat)] w fun e w'=>e=.returned (.int .u64 (codeB c:Nat))∧w=w':=by
 go_enter Tryz.func158,Tryz.ntmps158
 go_wp2
 go_loop [3] (fun i=>∃k:Nat,k≤39∧i=.int .i64 k∧∀j,j<k→lettersL.getD j 0≠c) (fun i=>39 - (intOf i).toNat)
 case atStart=>exact ⟨0,by omega,rfl,fun j hj=>absurd hj (by omega)⟩
 case round =>
  obtain ⟨k,hk,rfl,hno⟩:=hrel
  by_cases hlt:k<39
  · have Hno:=jH hno
    have hsz:k<lettersS.size:=hlt;clear hno;go_wp2
    · have hq:(((lettersS[k].toNat:Nat):Int) == ((c.toNat:Nat):Int))=true:=by assumption
      have hq':lettersS[k]=c:=UInt8.toNat_inj.1 (Int.ofNat.inj (beq_iff_eq.1 hq));rw [lettersS_get k hsz] at hq';go_ret
      refine ⟨ret_int ?_,rfl⟩;rw [←hq',letters_code k hlt];rfl
    · have hq:(((lettersS[k].toNat:Nat):Int) == ((c.toNat:Nat):Int))=false:=by assumption
      have hq':lettersS[k]≠c:=fun e=>by
       have:=beq_eq_false_iff_ne.1 hq;exact this (congrArg (fun b:UInt8=>((b.toNat:Nat):Int)) e)
      rw [lettersS_get k hsz] at hq'
      go_round
      case rel =>
       refine ⟨k+1,by omega,by go_num,fun j hj=>?_⟩
       rcases Nat.lt_or_ge j k with h|h
       · exact Hno.out j h
       · obtain rfl:j=k:=by omega
         exact hq'
      case measure=>simp [intOf];omega
  · obtain rfl:k=39:=by omega
    have h0:=place_none c hno;clear hno;go_wp2
    go_ret
    exact ⟨rfl,rfl⟩
theorem id_any (s:ByteArray) (w:World) (hm:s.size≤maxLen) :
 Calls Tryz.prog 101 #[.string s] w fun e w'=>e=.returned (.bool (idS s))∧w=w':=by
 unfold maxLen at hm
 by_cases h1:s.size<1
 · rw [idS_len s (.inl h1)]
   go_enter Tryz.func101,Tryz.ntmps101
   go_wp2
   go_ret
   exact ⟨rfl,rfl⟩
 · by_cases h2:20<s.size
   · rw [idS_len s (.inr h2)]
     go_enter Tryz.func101,Tryz.ntmps101
     go_wp2
     go_ret
     exact ⟨rfl,rfl⟩
   · go_enter Tryz.func101,Tryz.ntmps101
     go_wp2
     go_loop [3] (fun i=>∃k:Nat,k≤s.size∧i=.int .i64 k∧OkTo s k) (fun i=>s.size - (intOf i).toNat)
     case atStart=>exact ⟨0,Nat.zero_le _,rfl,okTo_zero s⟩
     case round =>
      obtain ⟨k,hk,rfl,hok⟩:=hrel
      by_cases hlt:k<s.size
      · cases hb:okB s[k] with
        | true =>
          have hok':=okTo_succ s k hok hlt hb;have hc:((codeB s[k]:Int) == 0)=false:=by simpa [okB] using hb
          have Hok':=jH hok';clear hb hok hok'
          go_wp2_with (go_at_call 158;refine (place_any _ _).mono ?_;rintro e w' ⟨rfl,rfl⟩)
          go_round
          case rel=>exact ⟨k+1,hlt,by go_num,Hok'.out⟩
          case measure=>simp [intOf];omega
        | false =>
          have hf:=idS_bad s k hlt hb;have hc:((codeB s[k]:Int) == 0)=true:=by simpa [okB] using hb
          have Hf:=jH hf;clear hb hok hf
          go_wp2_with (go_at_call 158;refine (place_any _ _).mono ?_;rintro e w' ⟨rfl,rfl⟩)
          go_ret
          rw [Hf.out];exact ⟨rfl,rfl⟩
      · obtain rfl:k=s.size:=by omega
        have hf:=idS_all s (by omega) (by omega) hok;have Hf:=jH hf;clear hf hok;go_wp2
        go_ret
        rw [Hf.out];exact ⟨rfl,rfl⟩
def keyS (s:ByteArray):Value:=keyV (hiN s.data.toList) (loN s.data.toList)
theorem keyN_lt9 (l:List UInt8) (a n:Nat) (h:n≤9):keyN l a n<18014398509481984 :=
 Nat.lt_of_lt_of_le (keyN_lt l a n) (Nat.pow_le_pow_right (n:=64) (j:=9) (by decide) h)
theorem refKey_any (s:ByteArray) (w:World) (hm:s.size≤maxLen) (hid:idS s=true) :
 Calls Tryz.prog 104 #[.string s] w (jP w (keyS s)):=by
 have Hid:=jH hid;unfold keyS keyV;unfold maxLen at hm;obtain ⟨hs1,hs2,_⟩:=idS_okTo s hid;clear hid
 go_enter Tryz.func104,Tryz.ntmps104
 go_wp2_with (go_at_call 101;refine (id_any _ _ hm).mono ?_;rw [Hid.out];rintro e w' ⟨rfl,rfl⟩)
 go_loopw [4,5] (fun i _ w'=>∃k:Nat,k≤20∧i=.int .i64 k∧w'=(w.alloc (.cells #[.int .u64 0,.int .u64 0] 130)).alloc (.cells #[.int .u64 (keyN s.data.toList 0 (min k 10):Nat),.int .u64 (keyN s.data.toList 10 (k - 10):Nat)] 130)) (fun i _ _=>20 - (intOf i).toNat)
 case atStart=>exact ⟨0,by omega,rfl,rfl⟩
 case round =>
  obtain ⟨k,hk,rfl,rfl⟩:=hrel
  by_cases hlt:k<20
  · have d1:=dig_le s.data.toList k
    have hgd:∀h:k<s.size,dig s.data.toList k=codeB (s[k]'h):=fun h=>by rw [dig_at _ _ (by simpa using h)];rfl
    by_cases h10:k<10
    · have hst:keyN s.data.toList 0 (min (k+1) 10)=keyN s.data.toList 0 (min k 10) * 64+dig s.data.toList k:=by
       rw [Nat.min_eq_left (by omega),Nat.min_eq_left (by omega),keyN,Nat.zero_add]
      have n3:=keyN_lt9 s.data.toList 0 (min k 10) (by omega);have e2:k - 10=k+1 - 10:=by omega
      have E2:=jH e2;clear e2
      by_cases hin:k<s.size
      · rw [hgd hin] at hst d1
        have Hst:=jH hst;clear hst hgd
        go_wp2_with (go_at_call 158;refine (place_any _ _).mono ?_;rintro e w' ⟨rfl,rfl⟩)
        go_roundw
        case rel =>
         refine ⟨k+1,by omega,by go_num,?_⟩;rw [Hst.out,E2.out];simp
        case measure=>simp [intOf];omega
      · have hd0:dig s.data.toList k=0:=dig_out _ _ (by simp;omega)
        rw [hd0] at hst;have Hst:=jH hst;clear hst hd0 hgd;go_wp2
        go_roundw
        case rel =>
         refine ⟨k+1,by omega,by go_num,?_⟩;rw [Hst.out,E2.out];simp
        case measure=>simp [intOf];omega
    · have hst:keyN s.data.toList 10 (k+1 - 10)=keyN s.data.toList 10 (k - 10) * 64+dig s.data.toList k:=by
       rw [show k+1 - 10=(k - 10)+1 by omega,keyN,show 10+(k - 10)=k by omega]
      have n3:=keyN_lt9 s.data.toList 10 (k - 10) (by omega);have e2:min k 10=min (k+1) 10:=by omega
      have E2:=jH e2;clear e2
      by_cases hin:k<s.size
      · rw [hgd hin] at hst d1
        have Hst:=jH hst;clear hst hgd
        go_wp2_with (go_at_call 158;refine (place_any _ _).mono ?_;rintro e w' ⟨rfl,rfl⟩)
        go_roundw
        case rel =>
         refine ⟨k+1,by omega,by go_num,?_⟩;rw [Hst.out,E2.out];simp
        case measure=>simp [intOf];omega
      · have hd0:dig s.data.toList k=0:=dig_out _ _ (by simp;omega)
        rw [hd0] at hst;have Hst:=jH hst;clear hst hd0 hgd;go_wp2
        go_roundw
        case rel =>
         refine ⟨k+1,by omega,by go_num,?_⟩;rw [Hst.out,E2.out];simp
        case measure=>simp [intOf];omega
  · obtain rfl:k=20:=by omega
    go_wp2
    exact bodyPost_ret (v:=.agg #[.int .u64 (hiN s.data.toList:Nat),.int .u64 (loN s.data.toList:Nat)]) (by simp [results,Tryz.results104,go_sem];exact ⟨rfl,rfl⟩) rfl
      ⟨rfl,(jR.alloc (Nat.le_refl _) _).alloc (by simp) _⟩
def beforeL:List UInt8→List UInt8→Bool
  | a::l,b::m=>if a=b then beforeL l m else decide (a.toNat<b.toNat)
  | [],_::_=>true
  | _,[]=>false
theorem beforeL_cons (a:UInt8) (l m:List UInt8):beforeL (a::l) (a::m)=beforeL l m:=by simp [beforeL]
theorem beforeL_drop (l m:List UInt8):∀k,k≤l.length→k≤m.length→(∀j,j<k→l[j]?=m[j]?)→beforeL l m=beforeL (l.drop k) (m.drop k):=by
 intro k
 induction k generalizing l m with
 | zero=>intros;rfl
 | succ k ih =>
   intro h1 h2 h
   match l,m,h1,h2 with
   | a::l,b::m,h1,h2 =>
     have h0:=h 0 (by omega);simp at h0
     subst h0;rw [beforeL_cons,List.drop_succ_cons,List.drop_succ_cons];exact ih l m (by simpa using h1) (by simpa using h2) (fun j hj=>by simpa using h (j+1) (by omega))
def beforeS (s t:ByteArray):Bool:=beforeL s.data.toList t.data.toList
def SameTo (s t:ByteArray) (k:Nat):Prop:=∀j,j<k→s.data.toList[j]?=t.data.toList[j]?
theorem sameTo_succ {s t:ByteArray} {k:Nat} (h:SameTo s t k) (h1:k<s.size) (h2:k<t.size) (e:s[k]=t[k]):SameTo s t (k+1):=by
 intro j hj
 rcases Nat.lt_or_ge j k with hl|hl
 · exact h j hl
 · obtain rfl:j=k:=by omega
   rw [List.getElem?_eq_getElem (by simpa using h1),List.getElem?_eq_getElem (by simpa using h2)];exact congrArg some e
theorem before_at {s t:ByteArray} {k:Nat} (h:SameTo s t k) (h1:k<s.size) (h2:k<t.size) (e:s[k]≠t[k]):beforeS s t=decide ((s[k]).toNat<(t[k]).toNat):=by
 have h1':k<s.data.toList.length:=by simpa using h1
 have h2':k<t.data.toList.length:=by simpa using h2
 unfold beforeS;rw [beforeL_drop _ _ k (by omega) (by omega) h,List.drop_eq_getElem_cons h1',List.drop_eq_getElem_cons h2',beforeL];exact if_neg e
theorem before_end {s t:ByteArray} {k:Nat} (h:SameTo s t k) (h1:k≤s.size) (h2:k≤t.size) (e:k=s.size∨k=t.size):beforeS s t=decide (s.size<t.size):=by
 have h1':s.data.toList.length=s.size:=by simp
 have h2':t.data.toList.length=t.size:=by simp
 unfold beforeS;rw [beforeL_drop _ _ k (by omega) (by omega) h]
 rcases e with e|e
 · rw [List.drop_of_length_le (by omega)]
   rcases Nat.lt_or_ge k t.size with hl|hl
   · rw [List.drop_eq_getElem_cons (by omega)]
     simp [beforeL];omega
   · rw [List.drop_of_length_le (by omega)]
     simp [beforeL];omega
 · rw [show t.data.toList.drop k=[] from List.drop_of_length_le (by omega)]
   have hd:decide (s.size<t.size)=false:=by simp;omega
   rw [hd]
   cases s.data.toList.drop k <;> rfl
end
section
open Go.RowKit Go.Lib Go.Sort
structure Nd where
 pol:Pol
 ruled:Bool
 ver:Nat
 smp:List Smp
 past:List Adv
 frz:Bool
def pol0:Pol:=⟨0,0,0,0,0,0⟩
def nd0:Nd:=⟨pol0,false,0,[],[],false⟩
end
section
open Go.RowKit Go.Lib Go.Shelf
attribute [local go_sem] Oper.semAt_some
end
section
open Go.RowKit Go.Lib
open Go.Maps (Keyed)
open Go.ChangeMaps
structure EntsOf {α β:Type} (K:α→Value) (V:β→Value) (ents:Array MapEntry) (clock:Nat) (es:List (α × β)):Prop where
 kv:ents.toList.map (fun e=>(e.key,e.val))=es.map (fun p=>(K p.1,V p.2))
 born:(ents.toList.map (·.born)).Nodup
 old:∀e∈ents.toList,e.born<clock
 keys:(es.map (·.1)).Nodup
def RangeIn {α β:Type} (K:α→Value) (V:β→Value) (w:World) (b r:Nat) (es pre:List (α × β)) (cnt:Nat):Prop :=
 ∃ (ents:Array MapEntry) (clock since:Nat) (seen:Array Nat) (c0:Nat) (ps:List MapEntry),w.heap[b]?=some (.map ents clock)∧EntsOf K V ents clock es∧w.heap[r]?=some (.mapIter (some b) since seen c0)∧(∀e∈ents.toList,e.born<since)∧since≤c0∧since≤clock ∧
   ps.map (fun e=>(e.key,e.val))=pre.map (fun p=>(K p.1,V p.2))∧seen.toList=ps.map (·.born)∧(∀e∈ps,e∈ents.toList)∧(∀p∈pre,p∈es)∧(pre.map (·.1)).Nodup∧(leftOf ents seen).size=cnt∧pre.length+cnt≤es.length
section
variable {α β:Type} [DecidableEq α] {K:α→Value} {V:β→Value} {P:Program} {k t e:TypeId} {w:World} {b r:Nat} {es pre:List (α × β)} {cnt:Nat}
theorem RangeIn.map_ (h:RangeIn K V w b r es pre cnt):MapIn K V w b es:=by
 obtain ⟨ents,clock,_,_,_,_,hb,hE,_⟩:=h;exact ⟨ents,clock,hb,hE.kv,hE.born,hE.old,hE.keys⟩
theorem RangeIn.lt (h:RangeIn K V w b r es pre cnt):r<w.heap.size:=by
 obtain ⟨_,_,_,_,_,_,_,_,hr,_⟩:=h;exact (jL hr)
theorem RangeIn.ne (h:RangeIn K V w b r es pre cnt):r≠b:=by
 obtain ⟨_,_,_,_,_,_,hb,_,hr,_⟩:=h;intro e;rw [e,hb] at hr
 cases hr
theorem RangeIn.left_eq (h:RangeIn K V w b r es pre cnt):w.rangeLeft b r=cnt:=by
 obtain ⟨_,_,_,_,_,_,hb,_,hr,_,_,_,_,_,_,_,_,hc,_⟩:=h;simp only [World.rangeLeft,hb,hr]
 exact hc
theorem RangeIn.kept {w':World} (h:RangeIn K V w b r es pre cnt) (h1:w'.heap[b]?=w.heap[b]?) (h2:w'.heap[r]?=w.heap[r]?):RangeIn K V w' b r es pre cnt:=by
 obtain ⟨ents,clock,since,seen,c0,ps,hb,hE,hr,rest⟩:=h;exact ⟨ents,clock,since,seen,c0,ps,h1.trans hb,hE,h2.trans hr,rest⟩
theorem MapIn.range (h:MapIn K V w b es) (ht:P.underlying t=some (.map k e)) :
 ∃w',(Instr.range t (.map (some b))).run P w=.ok (.pointer (some ⟨w.heap.size,0,none⟩)) w'∧RangeIn K V w' b w.heap.size es [] es.length∧w.grownBy w' none∧w'.heap.size=w.heap.size+1:=by
 have hlt:=h.lt;obtain ⟨ents,clock,hb,h1,h2,h3,h4⟩:=h;have hs:ents.size=es.length:=by simpa using congrArg List.length h1
 exact ⟨_,run_range_map w t k e b ents clock ht hb,⟨ents,clock,clock,#[],clock,[],((MapKept.heap_alloc w _).2 b hlt).trans hb,⟨h1,h2,h3,h4⟩,(MapKept.heap_alloc w _).1,h3,Nat.le_refl _,Nat.le_refl _,rfl,rfl,fun _ h=>by simp at h,fun _ h=>by simp at h,List.nodup_nil,by rw [←hs];simp [leftOf],by simp⟩,World.grownBy_alloc w _ none,by simp⟩
theorem RangeIn.next (h:RangeIn K V w b r es pre cnt) (inj:∀x y,K x=K y→x=y) (ty:TypeId) :
 (cnt=0∧(pre.map (·.1)).Perm (es.map (·.1))∧(Instr.next (.pointer (some ⟨r,0,none⟩)) false ty).run P w=.ok (.tuple #[.bool false]) w) ∨
 ∃ p w' cnt',p∈es∧p.1∉pre.map (·.1)∧(Instr.next (.pointer (some ⟨r,0,none⟩)) false ty).run P w=.ok (.tuple #[.bool true,K p.1,V p.2]) w' ∧
   RangeIn K V w' b r es (pre++[p]) cnt'∧cnt'<cnt∧w.grownBy w' (some r)∧w'.heap.size=w.heap.size∧(Instr.entry (.pointer (some ⟨r,0,none⟩))).run P w'=.ok (.tuple #[K p.1,V p.2]) w':=by
 have hne:=h.ne;obtain ⟨ents,clock,since,seen,c0,ps,hb,hE,hr,hold,hsc,hsk,hps,hseen,hsub,hpre,hnd,rfl,hcnt⟩:=h
 rcases run_next_at (P:=P) w ty r b since c0 seen ents clock hr hb hold hsc with ⟨h0,hrun⟩|⟨e,he,w1,hal,hrun⟩
 · refine Or.inl ⟨h0,?_,hrun⟩
   refine (List.perm_ext_iff_of_nodup hnd hE.keys).2 (fun x=>⟨fun hx=>?_,fun hx=>?_⟩)
   · obtain ⟨p,hp,rfl⟩:=List.mem_map.1 hx
     exact List.mem_map.2 ⟨p,hpre p hp,rfl⟩
   · obtain ⟨p,hp,rfl⟩:=List.mem_map.1 hx
     obtain ⟨j,hj⟩:=List.getElem?_of_mem hp;have:=congrArg (·[j]?) hE.kv;simp only [List.getElem?_map,hj,Option.map_some] at this
     cases hej:ents.toList[j]? with
     | none=>rw [hej] at this;cases this
     | some e0 =>
       rw [hej] at this;simp only [Option.map_some,Option.some.injEq,Prod.mk.injEq] at this
       have hs:=all_seen ents seen h0 e0 (List.mem_of_getElem? hej);have hs':e0.born∈ps.map (·.born):=by rw [←hseen];simpa using hs
       obtain ⟨e1,he1,hborn⟩:=List.mem_map.1 hs';obtain rfl:=born_inj hE.born (hsub e1 he1) (List.mem_of_getElem? hej) hborn;obtain ⟨q,hq,hk,hv⟩:=ents_mem hps he1;exact List.mem_map.2 ⟨q,hq,inj _ _ (hk.symm.trans this.1)⟩
 · obtain ⟨hem,hes⟩:=mem_left he
   obtain ⟨j,hj⟩:=List.getElem?_of_mem hem;obtain ⟨p,hp,hk,hv⟩:=ents_at hE.kv hj;have hpm:=List.mem_of_getElem? hp;have hnew:p.1∉pre.map (·.1):=by
    intro hx;obtain ⟨q,hq,hqp⟩:=List.mem_map.1 hx;obtain ⟨i,hi⟩:=List.getElem?_of_mem hq;have:=congrArg (·[i]?) hps;simp only [List.getElem?_map,hi,Option.map_some] at this
    cases hei:ps[i]? with
    | none=>rw [hei] at this;cases this
    | some e0 =>
      rw [hei] at this;simp only [Option.map_some,Option.some.injEq,Prod.mk.injEq] at this
      have he0:=List.mem_of_getElem? hei;obtain ⟨m,hm⟩:=List.getElem?_of_mem (hsub e0 he0);obtain ⟨q',hq',hk',hv'⟩:=ents_at hE.kv hm;have h1:q'.1=p.1:=(inj _ _ (hk'.symm.trans this.1)).trans hqp;have hm1:(es.map (·.1))[m]?=some p.1:=by simp [hq',h1]
      have hj1:(es.map (·.1))[j]?=some p.1:=by simp [hp]
      obtain rfl:=nodup_inj hE.keys hm1 hj1;rw [hj] at hm;injection hm with hm
      subst hm;have:e.born∈seen.toList:=by rw [hseen];exact List.mem_map.2 ⟨e,he0,rfl⟩
      have:seen.contains e.born=true:=by simpa using this
      rw [this] at hes
      cases hes
   have hr1:w1.heap[r]?=some (.mapIter (some b) since seen c0):=by rcases hal with rfl|rfl <;> exact hr
   have hb1:w1.heap[b]?=some (.map ents clock):=by rcases hal with rfl|rfl <;> exact hb
   have hset:=Go.MapKept.heap_set (o':=.mapIter (some b) since (seen.push e.born) clock) hr1;have hb':(setBlock w1 r (.mapIter (some b) since (seen.push e.born) clock)).heap[b]?=some (.map ents clock):=(hset.2 b (fun e1=>hne e1.symm)).trans hb1;have hsh:=left_shrinks ents seen e he
   refine Or.inr ⟨p,_,_,hpm,hnew,by rw [←hk,←hv];exact hrun,
     ⟨ents,clock,since,seen.push e.born,clock,ps++[e],hb',hE,hset.1,hold,hsk,hsk,by rw [List.map_append,List.map_append,hps];simp [hk,hv],by rw [Array.toList_push,hseen];simp,fun x hx=>?_,fun q hq=>?_,?_,rfl,?_⟩,hsh,?_,?_,?_⟩
   · rcases List.mem_append.1 hx with h|h
     · exact hsub x h
     · rw [List.mem_singleton.1 h];exact hem
   · rcases List.mem_append.1 hq with h|h
     · exact hpre q h
     · rw [List.mem_singleton.1 h];exact hpm
   · rw [List.map_append,List.nodup_append]
     refine ⟨hnd,by simp,fun a ha c hc=>?_⟩;simp only [List.map_cons,List.map_nil,List.mem_singleton] at hc
     subst hc;exact fun e1=>hnew (e1 ▸ ha)
   · rw [List.length_append,List.length_singleton];omega
   · rcases hal with rfl|rfl <;> exact ⟨rfl,rfl,rfl,by simp [setBlock],fun i _ hi=>hset.2 i (fun e1=>hi (by rw [e1]))⟩
   · rcases hal with rfl|rfl <;> simp [setBlock]
   · rw [←hk,←hv]
     exact run_entry_at _ r b since seen ents clock e hset.1 hb' hem hE.born
end
end
section
open Go.RowKit Go.Lib Go.Shelf
attribute [local go_sem] Oper.semAt_some
section
variable {F:Fence} {nF:Nat} {P:Program} {ops:Array Oper} {rest:List Oper} {o:Oper} {a:Act} {w:World} {Q:Exit→Act→World→Prop}
variable {α β:Type} [DecidableEq α] {K:α→Value} {V:β→Value} {b r:Nat} {es pre:List (α × β)} {cnt:Nat}
end
end
section
open Go.RowKit Go.Lib
def twoV (n:Nat):Value:=.agg #[.int .u64 ((n / 18446744073709551616:Nat):Int),.int .u64 ((n % 18446744073709551616:Nat):Int)]
theorem or_fresh {x k:Nat} (h:2 ^ (k+1) ∣ x):x ||| 2 ^ k=x+2 ^ k:=by
 obtain ⟨a,rfl⟩:=h;exact (Nat.two_pow_add_eq_or_of_lt (Nat.pow_lt_pow_right (by decide) (by omega)) a).symm
def xD (n i:Nat):Nat:=n * 2 ^ i % 340282366920938463463374607431768211456
def aD (n i:Nat):Nat:=n / 2 ^ (128 - i)
def rD (n d i:Nat):Nat:=aD n i % d
def qD (n d i:Nat):Nat:=aD n i / d * 2 ^ (128 - i)
def bD (n i:Nat):Nat:=(n.testBit (127 - i)).toNat
theorem bD_le (n i:Nat):bD n i≤1:=by unfold bD;cases n.testBit (127 - i) <;> simp
theorem aD_succ {n i:Nat} (hi:i<128):aD n (i+1)=2 * aD n i+bD n i:=by
 unfold aD bD;have h:=top_bit n (127 - i);rw [show 127 - i+1=128 - i by omega] at h;rw [show 128 - (i+1)=127 - i by omega];exact h
theorem pow128:(340282366920938463463374607431768211456:Nat)=2 ^ 128:=by decide
theorem xD_bit {n i:Nat} (hi:i<128):xD n i / 170141183460469231731687303715884105728=bD n i:=by
 unfold xD bD;rw [bit_nat];have e:(170141183460469231731687303715884105728:Nat)=2 ^ i * 2 ^ (127 - i):=by rw [←Nat.pow_add,show i+(127 - i)=127 by omega]
 have e2:(340282366920938463463374607431768211456:Nat)=170141183460469231731687303715884105728 * 2:=by decide
 rw [e2,Nat.mod_mul_right_div_self,e,←Nat.div_div_eq_div_mul,Nat.mul_div_cancel _ (Nat.two_pow_pos i)]
theorem xD_succ (n i:Nat):xD n (i+1)=2 * xD n i % 340282366920938463463374607431768211456:=by
 unfold xD;rw [Nat.pow_succ,←Nat.mul_assoc];generalize n * 2 ^ i=y;omega
theorem xD_lt (n i:Nat):xD n i<340282366920938463463374607431768211456:=Nat.mod_lt _ (by decide)
theorem rD_lt {n d i:Nat} (hd:0<d):rD n d i<d:=Nat.mod_lt _ hd
theorem div_low {n d i:Nat} (hi:i<128) (hd:0<d) (h:2 * rD n d i+bD n i<d):rD n d (i+1)=2 * rD n d i+bD n i∧qD n d (i+1)=qD n d i:=by
 unfold rD qD at *;rw [aD_succ hi];have hm:=Nat.div_add_mod (aD n i) d;generalize aD n i / d=k at *;generalize aD n i % d=r at *;have e:2 * aD n i+bD n i=d * (2 * k)+(2 * r+bD n i):=by rw [←hm,Nat.mul_left_comm];omega
 rw [e,Nat.mul_add_mod,Nat.mod_eq_of_lt h,Nat.mul_add_div hd,Nat.div_eq_of_lt h];refine ⟨rfl,?_⟩;rw [show 128 - i=128 - (i+1)+1 by omega,Nat.pow_succ,Nat.add_zero,Nat.mul_comm 2 k,Nat.mul_assoc,Nat.mul_comm 2]
theorem div_high {n d i:Nat} (hi:i<128) (hd:0<d) (h:d≤2 * rD n d i+bD n i):rD n d (i+1)=2 * rD n d i+bD n i - d∧qD n d (i+1)=qD n d i+2 ^ (127 - i):=by
 have hr:=rD_lt (n:=n) (i:=i) hd;have hb:=bD_le n i;unfold rD qD at *;rw [aD_succ hi];have hm:=Nat.div_add_mod (aD n i) d;generalize aD n i / d=k at *;generalize aD n i % d=r at *;have e:2 * aD n i+bD n i=d * (2 * k+1)+(2 * r+bD n i - d):=by
  have e1:d * (2 * k+1)=2 * (d * k)+d:=by rw [Nat.mul_add,Nat.mul_one,Nat.mul_left_comm]
  rw [←hm,e1];omega
 have hlt:2 * r+bD n i - d<d:=by omega
 rw [e,Nat.mul_add_mod,Nat.mod_eq_of_lt hlt,Nat.mul_add_div hd,Nat.div_eq_of_lt hlt];refine ⟨rfl,?_⟩;rw [show 128 - i=128 - (i+1)+1 by omega,Nat.pow_succ,Nat.add_zero,Nat.add_mul,Nat.one_mul,show 128 - (i+1)=127 - i by omega,Nat.mul_comm 2 k,Nat.mul_assoc,Nat.mul_comm 2]
theorem qD_dvd (n d i:Nat):2 ^ (128 - i) ∣ qD n d i:=Nat.dvd_mul_left _ _
theorem qD_zero {n d:Nat} (hn:n<340282366920938463463374607431768211456):qD n d 0=0∧rD n d 0=0∧xD n 0=n:=by
 have h:n / 340282366920938463463374607431768211456=0:=Nat.div_eq_of_lt hn;refine ⟨?_,?_,?_⟩
 · unfold qD aD;rw [Nat.sub_zero,←pow128,h,Nat.zero_div,Nat.zero_mul]
 · unfold rD aD;rw [Nat.sub_zero,←pow128,h,Nat.zero_mod]
 · unfold xD;rw [Nat.pow_zero,Nat.mul_one,Nat.mod_eq_of_lt hn]
theorem qD_end (n d:Nat):qD n d 128=n / d∧rD n d 128=n % d:=by
 unfold qD rD aD;simp
theorem qD_lt {n d i:Nat} (hn:n<340282366920938463463374607431768211456) (hi:i≤128):qD n d i<340282366920938463463374607431768211456:=by
 unfold qD aD;have h1:=Nat.div_le_self (n / 2 ^ (128 - i)) d;have h2:=Nat.mul_le_mul_right (2 ^ (128 - i)) h1;have h3:=Nat.div_mul_le_self n (2 ^ (128 - i));omega
theorem q_hi {n d i:Nat} (hi:i<64) (hn:n<340282366920938463463374607431768211456) :
 (qD n d i+2 ^ (127 - i)) / 18446744073709551616=(qD n d i / 18446744073709551616 ||| 2 ^ (63 - i))∧(qD n d i+2 ^ (127 - i)) % 18446744073709551616=qD n d i % 18446744073709551616:=by
 obtain ⟨m,hm⟩:=qD_dvd n d i;have e1:2 ^ (127 - i)=18446744073709551616 * 2 ^ (63 - i):=by
  rw [show 127 - i=64+(63 - i) by omega,Nat.pow_add]
 have e2:2 ^ (128 - i)=18446744073709551616 * 2 ^ (63 - i+1):=by
  rw [show 128 - i=64+(63 - i+1) by omega,Nat.pow_add]
 have e3:qD n d i / 18446744073709551616=2 ^ (63 - i+1) * m:=by
  rw [hm,e2,Nat.mul_assoc,Nat.mul_div_cancel_left _ (by decide)]
 constructor
 · rw [e3,or_fresh (Nat.dvd_mul_right _ _),hm,e1,e2,Nat.mul_assoc,←Nat.mul_add,Nat.mul_div_cancel_left _ (by decide)]
 · rw [e1,Nat.add_mul_mod_self_left]
theorem q_lo {n d i:Nat} (h64:64≤i) (hi:i<128) :
 (qD n d i+2 ^ (127 - i)) / 18446744073709551616=qD n d i / 18446744073709551616∧(qD n d i+2 ^ (127 - i)) % 18446744073709551616=(qD n d i % 18446744073709551616 ||| 2 ^ (127 - i)):=by
 have hd:2 ^ (128 - i) ∣ qD n d i % 18446744073709551616:=by
  rw [Nat.dvd_mod_iff]
  · exact qD_dvd n d i
  · rw [show (18446744073709551616:Nat)=2 ^ 64 by decide]
    exact Nat.pow_dvd_pow 2 (by omega)
 have ho:(qD n d i % 18446744073709551616 ||| 2 ^ (127 - i))=qD n d i % 18446744073709551616+2 ^ (127 - i):=or_fresh (by rw [show 127 - i+1=128 - i by omega];exact hd);have hlt:qD n d i % 18446744073709551616+2 ^ (127 - i)<18446744073709551616:=by
  obtain ⟨m,hm⟩:=hd;have hx:=Nat.mod_lt (qD n d i) (show 0<18446744073709551616 by decide);have e:18446744073709551616=2 ^ (128 - i) * 2 ^ (i - 64):=by rw [←Nat.pow_add,show 128 - i+(i - 64)=64 by omega]
  have e1:2 ^ (128 - i)=2 * 2 ^ (127 - i):=by rw [show 128 - i=127 - i+1 by omega,Nat.pow_succ,Nat.mul_comm]
  have hp:=Nat.two_pow_pos (127 - i);rw [hm] at hx ⊢;have hm2:m<2 ^ (i - 64):=by
   rw [e] at hx;exact Nat.lt_of_mul_lt_mul_left hx
  have hm3:2 ^ (128 - i) * (m+1)≤2 ^ (128 - i) * 2 ^ (i - 64):=Nat.mul_le_mul_left _ hm2;rw [Nat.mul_add,Nat.mul_one,←e] at hm3;omega
 rw [ho];generalize qD n d i=q at *;generalize 2 ^ (127 - i)=p at *;omega
theorem dbl_words (x:Nat) (hx:x<340282366920938463463374607431768211456) :
 (2 * x % 340282366920938463463374607431768211456) / 18446744073709551616=2 * (x / 18446744073709551616) % 18446744073709551616+x % 18446744073709551616 / 9223372036854775808 ∧
 (2 * x % 340282366920938463463374607431768211456) % 18446744073709551616=2 * (x % 18446744073709551616) % 18446744073709551616∧x / 18446744073709551616 / 9223372036854775808=x / 170141183460469231731687303715884105728:=by
 omega
end
section
open Go.RowKit Go.Lib
theorem refHigh_any (v:Value) (l:List Adv) (tick hold:Int) (w:World) (hv:RowIn 5 advC w v l) (hl:l.length≤1000000) (h1:I64 tick) (h2:I64 hold) :
 Calls Tryz.prog 177 #[v,.int .i64 tick,.int .i64 hold] w (jP w (.tuple #[.int .i64 (highI l tick hold).1,.bool (highI l tick hold).2])):=by
 obtain ⟨A,c,rfl⟩:=hv.form;have HV:=jH hv;have HL:=jH hl;have hl9:l.length≤9223372036854775807:=by omega
 have C1:=jH (fun W=>refSub_any tick hold W h1 h2);unfold highI;generalize endsI (tick - hold)=a at C1;clear hv hl h1 h2
 go_enter Tryz.func177,Tryz.ntmps177
 go_wp2_with (go_at_call 173;refine (C1.out _).mono ?_;rintro e w2 ⟨rfl,rfl⟩)
 go_loopg [8,9,11] l.length (fun g s7 s8 s12 wr=>∃k:Nat,k≤l.length∧l.length - k≤g∧s12=.int .i64 k∧s7=.int .i64 ((l.take k).foldl (highS a tick) (0,false)).1∧s8=.bool ((l.take k).foldl (highS a tick) (0,false)).2∧jB w wr)
 case atStart=>exact ⟨0,Nat.zero_le _,Nat.le_refl _,rfl,rfl,rfl,jR⟩
 case round =>
  obtain ⟨k,hk,hg,rfl,rfl,rfl,hb⟩:=hrel;rename World=>wr
  have HB:=jH hb;clear hb
  by_cases hlt:k<l.length
  · obtain ⟨b1,o1,rfl,hb1,hc⟩:=(HV.out.below HB.out).at_ hlt
    have z1:(0:Int)≤(k:Int):=by omega
    have z2:(k:Int)<(l.length:Int):=by omega
    have HTK:=jH (show (l.take (k+1)).foldl (highS a tick) (0,false)=highS a tick ((l.take k).foldl (highS a tick) (0,false)) l[k] by rw [List.take_succ_eq_append_getElem hlt,highI_snoc]);generalize l[k]=x at hc HTK;generalize (l.take k).foldl (highS a tick) (0,false)=st at HTK;obtain ⟨best,is⟩:=st;have d0:=hc 0 _ rfl;have d1:=hc 1 _ rfl;have d2:=hc 2 _ rfl;have d3:=hc 3 _ rfl;have d4:=hc 4 _ rfl;rw [Nat.add_zero] at d0
    have HK:=jH hlt;clear hc;dsimp only
    by_cases q1:a<x.tick
    · by_cases q2:x.tick≤tick
      · cases is
        · have HN:=jH (show highS a tick (best,false) x=(x.want,true) from if_pos ⟨q1,q2,Or.inl rfl⟩)
          as_aux_lemma =>
          go_wp2_with fail
          go_roundg (l.length - (k+1))
          case measure=>omega
          case rel=>exact ⟨k+1,HK.out,Nat.le_refl _,by go_num,by rw [HTK.out,HN.out],by rw [HTK.out,HN.out],by first|exact HB.out|exact balloc HB.out _⟩
        · by_cases q3:best<x.want
          · have HN:=jH (show highS a tick (best,true) x=(x.want,true) from if_pos ⟨q1,q2,Or.inr q3⟩)
            as_aux_lemma =>
            go_wp2_with fail
            go_roundg (l.length - (k+1))
            case measure=>omega
            case rel=>exact ⟨k+1,HK.out,Nat.le_refl _,by go_num,by rw [HTK.out,HN.out],by rw [HTK.out,HN.out],by first|exact HB.out|exact balloc HB.out _⟩
          · have HN:=jH (show highS a tick (best,true) x=(best,true) from if_neg (fun q=>by rcases q.2.2 with e|e;exact absurd e (by simp);exact q3 e))
            as_aux_lemma =>
            go_wp2_with fail
            go_roundg (l.length - (k+1))
            case measure=>omega
            case rel=>exact ⟨k+1,HK.out,Nat.le_refl _,by go_num,by rw [HTK.out,HN.out],by rw [HTK.out,HN.out],by first|exact HB.out|exact balloc HB.out _⟩
      · have HN:=jH (show highS a tick (best,is) x=(best,is) from if_neg (fun q=>q2 q.2.1))
        as_aux_lemma =>
        go_wp2_with fail
        go_roundg (l.length - (k+1))
        case measure=>omega
        case rel=>exact ⟨k+1,HK.out,Nat.le_refl _,by go_num,by rw [HTK.out,HN.out],by rw [HTK.out,HN.out],by first|exact HB.out|exact balloc HB.out _⟩
    · have HN:=jH (show highS a tick (best,is) x=(best,is) from if_neg (fun q=>q1 q.1))
      as_aux_lemma =>
      go_wp2_with fail
      go_roundg (l.length - (k+1))
      case measure=>omega
      case rel=>exact ⟨k+1,HK.out,Nat.le_refl _,by go_num,by rw [HTK.out,HN.out],by rw [HTK.out,HN.out],by first|exact HB.out|exact balloc HB.out _⟩
  · obtain rfl:k=l.length:=by omega
    rw [List.take_length];obtain ⟨st,hst⟩:∃st,st=l.foldl (highS a tick) (0,false):=⟨_,rfl⟩;rw [←hst];have HST:=jH hst;clear hst;go_wp2_with fail
    exact bodyPost_ret (v:=.tuple #[.int .i64 st.1,.bool st.2]) (by simp [results,Tryz.results177,go_sem]) rfl ⟨by rw [←HST.out],HB.out⟩
end
section
open Go
section
variable {P:Program} {ops:Array Oper} {Q:Exit→Act→World→Prop} {md:Region.Mode} {S:World→Prop} {k:Nat}
def wpAnyE (P:Program) (md:Region.Mode) (ops:Array Oper) (Q:Exit→Act→World→Prop) (S:World→Prop) (k:Nat):Nat→Array Bool→Act→World→Prop
  | 0,listed,a,w=>Region.ready md ops listed=[]∧Q .normal a w
  | fuel+1,listed,a,w =>
    (Region.ready md ops listed=[]→Q .normal a w) ∧
    ∀i∈Region.ready md ops listed,wpOp P ops Q i (fun a' w'=>((listed.setIfInBounds i true).getD k true=false→S w')∧wpAnyE P md ops Q S k fuel (listed.setIfInBounds i true) a' w') a w
theorem wpAny_of_E:∀(fuel:Nat) (listed:Array Bool) (a:Act) (w:World),wpAnyE P md ops Q S k fuel listed a w→wpAny P md ops Q fuel listed a w
  | 0,_,_,_,h=>h
  | fuel+1,_,_,_,h=>⟨h.1,fun i hi=>wpOp_mono (fun a' w' h'=>wpAny_of_E fuel _ a' w' h'.2) (h.2 i hi)⟩
def waitersE (md:Region.Mode) (ops:Array Oper) (i:Nat):List Nat :=
 (List.range ops.size).foldl (fun W j=>if (match ops[j]? with|some o=>o.after.any (fun e=>Region.binds md e && (e.on == i || W.contains e.on))|none=>false)=true then j::W else W) []
def waitsE (md:Region.Mode) (ops:Array Oper) (W:List Nat) (i:Nat):Bool:=W.all fun j=>match ops[j]? with|some o=>o.after.any (fun e=>Region.binds md e && (e.on == i || W.contains e.on))|none=>false
theorem wpAnyE_first {i:Nat} {oi:Oper} {v:Value} {W:List Nat} (hi:ops[i]?=some oi) (hik:i≠k) (hsel:∀(j:Nat) (o:Oper) cs b,ops[j]?=some o→o.op≠.select cs b)
    (hQ:∀c a w,Q (.panic c) (a.put oi.dst v) w→Q (.panic c) a w) (hkW:k∈W) (hw:waitsE md ops W i=true) :
    ∀ (fuel:Nat) (listed:Array Bool) (a:Act) (w:World),
      (∀j oj,ops[j]?=some oj→j≠i→listed.getD j true=false→(∀e∈oj.after,Region.binds md e=true→e.on≠i)→oi.apart ops oj=true) →
      i∈Region.ready md ops listed→(∀j∈W,listed.getD j true=false)→YieldsIf P ops S oi v a→S w →
      wpAnyE P md ops Q S k fuel (listed.setIfInBounds i true) (a.put oi.dst v) w→wpAnyE P md ops Q S k (fuel+1) listed a w:=by
  intro fuel
  induction fuel with
  | zero =>
    intro listed a w _ hr _ hy hS H;refine ⟨fun h=>(by rw [h] at hr;cases hr),fun j hj=>?_⟩
    by_cases hji:j=i
    · subst hji;exact hy.wpOp hi hS ⟨fun _=>hS,H⟩
    · have:=ready_mono hj hji
      rw [H.1] at this
      cases this
  | succ fuel ih =>
    intro listed a w hfree hr hWl hy hS H;refine ⟨fun h=>(by rw [h] at hr;cases hr),fun j hj=>?_⟩
    by_cases hji:j=i
    · subst hji;exact hy.wpOp hi hS ⟨fun _=>hS,H⟩
    · have h1:=H.2 j (ready_mono hj hji)
      obtain ⟨hjun,oj,hoj,hall⟩:=mem_ready.1 hj;have hlist:∀e∈oj.after,Region.binds md e=true→listed.getD e.on true=true:=fun e he hb=>by
       have h1:=hall e he hb
       rcases Nat.lt_or_ge e.on listed.size with h'|h'
       · simpa [h'] using h1
       · simp [Array.getElem?_eq_none h'] at h1 ⊢
      have hiun:listed.getD i true=false:=(mem_ready.1 hr).1;have hnot:∀e∈oj.after,Region.binds md e=true→e.on≠i:=fun e he hb heq=>by
       have h1:=hlist e he hb;rw [heq,hiun] at h1
       cases h1
      have hjW:j∉W:=fun hm=>by
       have h2:=List.all_eq_true.1 hw j hm;rw [hoj] at h2;simp only [Array.any_eq_true'] at h2
       obtain ⟨e,he,hb⟩:=h2;simp only [Bool.and_eq_true,Bool.or_eq_true,beq_iff_eq,List.contains_iff_mem] at hb
       have h3:=hlist e he hb.1
       rcases hb.2 with h4|h4
       · exact hnot e he hb.1 h4
       · rw [hWl _ h4] at h3;cases h3
      have hjk:j≠k:=fun e=>hjW (e ▸ hkW)
      have h2:=wpOp_putIf hoj (hfree j oj hoj hji hjun hnot) (fun cs b=>hsel i oi cs b hi) (fun cs b=>hsel j oj cs b hoj) hQ hy h1
      have hfree':∀k ok,ops[k]?=some ok→k≠i→(listed.setIfInBounds j true).getD k true=false →
          (∀e∈ok.after,Region.binds md e=true→e.on≠i)→oi.apart ops ok=true:=fun k ok hk hki hun hno=>by
        refine hfree k ok hk hki ?_ hno
        by_cases hjk:j=k
        · subst hjk;exact hjun
        · rw [getD_set_ne true hjk] at hun;exact hun
      have hWl':∀j'∈W,(listed.setIfInBounds j true).getD j' true=false:=fun j' hj'=>by
       have hne:j≠j':=fun e=>hjW (by rw [e];exact hj')
       rw [getD_set_ne true hne];exact hWl j' hj'
      have hc:((listed.setIfInBounds i true).setIfInBounds j true).getD k true=false:=by
       rw [Array.setIfInBounds_comm _ _ (Ne.symm hji),getD_set_ne true hik];exact hWl' k hkW
      refine wpOp_mono (fun a' w' h3=>⟨fun _=>h3.2.1 hc,ih (listed.setIfInBounds j true) a' w' hfree' (ready_mono hr (Ne.symm hji)) hWl' h3.1 (h3.2.1 hc) ?_⟩) h2;rw [Array.setIfInBounds_comm _ _ hji];exact h3.2.2
theorem wpAnyE_pure {i:Nat} {oi:Oper} {v:Value} (hi:ops[i]?=some oi) (hik:i≠k) (hsel:∀(j:Nat) (o:Oper) cs b,ops[j]?=some o→o.op≠.select cs b)
    (hQ:∀c a w,Q (.panic c) (a.put oi.dst v) w→Q (.panic c) a w) :
    ∀ (fuel:Nat) (listed:Array Bool) (a:Act) (w:World),
      (∀j oj,ops[j]?=some oj→j≠i→listed.getD j true=false→(∀e∈oj.after,Region.binds md e=true→e.on≠i)→oi.apart ops oj=true) →
      i∈Region.ready md ops listed→YieldsIf P ops (fun _=>True) oi v a→(listed.getD k true=false→S w) →
      wpAnyE P md ops Q S k fuel (listed.setIfInBounds i true) (a.put oi.dst v) w→wpAnyE P md ops Q S k (fuel+1) listed a w:=by
  intro fuel
  induction fuel with
  | zero =>
    intro listed a w _ hr hy hS H;refine ⟨fun h=>(by rw [h] at hr;cases hr),fun j hj=>?_⟩
    by_cases hji:j=i
    · subst hji;exact hy.wpOp hi trivial ⟨fun h=>hS (by rwa [getD_set_ne true hik] at h),H⟩
    · have:=ready_mono hj hji
      rw [H.1] at this
      cases this
  | succ fuel ih =>
    intro listed a w hfree hr hy hS H;refine ⟨fun h=>(by rw [h] at hr;cases hr),fun j hj=>?_⟩
    by_cases hji:j=i
    · subst hji;exact hy.wpOp hi trivial ⟨fun h=>hS (by rwa [getD_set_ne true hik] at h),H⟩
    · have h1:=H.2 j (ready_mono hj hji)
      obtain ⟨hjun,oj,hoj,hall⟩:=mem_ready.1 hj;have hnot:∀e∈oj.after,Region.binds md e=true→e.on≠i:=fun e he hb heq=>by
       have h1:=hall e he hb;have h0:=(mem_ready.1 hr).1;rw [heq] at h1
       rcases Nat.lt_or_ge i listed.size with h'|h'
       · simp [h'] at h0 h1;rw [h0] at h1;cases h1
       · simp [Array.getElem?_eq_none h'] at h1
      have h2:=wpOp_putIf hoj (hfree j oj hoj hji hjun hnot) (fun cs b=>hsel i oi cs b hi) (fun cs b=>hsel j oj cs b hoj) hQ hy h1
      have hfree':∀k ok,ops[k]?=some ok→k≠i→(listed.setIfInBounds j true).getD k true=false →
          (∀e∈ok.after,Region.binds md e=true→e.on≠i)→oi.apart ops ok=true:=fun k ok hk hki hun hno=>by
        refine hfree k ok hk hki ?_ hno
        by_cases hjk:j=k
        · subst hjk;exact hjun
        · rw [getD_set_ne true hjk] at hun;exact hun
      have hc:((listed.setIfInBounds i true).setIfInBounds j true).getD k true=(listed.setIfInBounds j true).getD k true:=by
       rw [Array.setIfInBounds_comm _ _ (Ne.symm hji),getD_set_ne true hik]
      refine wpOp_mono (fun a' w' h3=>⟨fun h=>h3.2.1 (hc.trans h),ih (listed.setIfInBounds j true) a' w' hfree' (ready_mono hr (Ne.symm hji)) h3.1 (fun h=>h3.2.1 (hc.trans h)) ?_⟩) h2;rw [Array.setIfInBounds_comm _ _ hji];exact h3.2.2
theorem wpAnyE_takeP {i:Nat} {oi:Oper} {v:Value} {fuel:Nat} {listed:Array Bool} {a:Act} {w:World} (hi:ops[i]?=some oi)
    (hs:Region.noSelect ops=true) (hf:Region.free md ops listed i=true) (hr:(Region.ready md ops listed).contains i=true) (hik:decide (i≠k)=true)
    (hQ:∀c a w,Q (.panic c) (a.put oi.dst v) w→Q (.panic c) a w) (hy:YieldsIf P ops (fun _=>True) oi v a) (hS:S w)
    (h:wpAnyE P md ops Q S k fuel (listed.setIfInBounds i true) (a.put oi.dst v) w):wpAnyE P md ops Q S k (fuel+1) listed a w :=
  wpAnyE_pure hi (of_decide_eq_true hik) (Region.noSelect_spec hs) hQ fuel listed a w (Region.free_spec hi hf) (by simpa using hr) hy (fun _=>hS) h
def takesE (md:Region.Mode) (ops:Array Oper) (listed:Array Bool) (k i:Nat):Bool :=
 decide (i≠k) && (waitersE md ops i).contains k && waitsE md ops (waitersE md ops i) i && (waitersE md ops i).all fun j=>listed.getD j true == false
theorem wpAnyE_take {i:Nat} {oi:Oper} {v:Value} {fuel:Nat} {listed:Array Bool} {a:Act} {w:World} (hi:ops[i]?=some oi)
    (hs:Region.noSelect ops=true) (hf:Region.free md ops listed i=true) (hr:(Region.ready md ops listed).contains i=true) (hw:takesE md ops listed k i=true)
    (hQ:∀c a w,Q (.panic c) (a.put oi.dst v) w→Q (.panic c) a w) (hy:YieldsIf P ops S oi v a) (hS:S w)
    (h:wpAnyE P md ops Q S k fuel (listed.setIfInBounds i true) (a.put oi.dst v) w):wpAnyE P md ops Q S k (fuel+1) listed a w:=by
  simp only [takesE,Bool.and_eq_true,decide_eq_true_eq,List.contains_iff_mem,List.all_eq_true,beq_iff_eq] at hw
  obtain ⟨⟨⟨h1,h2⟩,h3⟩,h4⟩:=hw;exact wpAnyE_first hi h1 (Region.noSelect_spec hs) hQ h2 h3 fuel listed a w (Region.free_spec hi hf) (by simpa using hr) h4 hy hS h
theorem wpAnyE_one {i:Nat} {o:Oper} {fuel:Nat} {listed:Array Bool} {a:Act} {w:World} (hr:Region.ready md ops listed=[i]) (ho:ops[i]?=some o)
    (h:∀K':Act→World→Prop,Shut (∀a w,((listed.setIfInBounds i true).getD k true=false→S w)→(((listed.setIfInBounds i true).getD k true=false→S w)→wpAnyE P md ops Q S k fuel (listed.setIfInBounds i true) a w)→K' a w)→if Region.wanted o (yielded ops a.tmps)=true then Oper.wp P o a w K' Q else K' (a.put o.dst undef) w) :
    wpAnyE P md ops Q S k (fuel+1) listed a w:=by
  refine ⟨fun h0=>(by rw [hr] at h0;cases h0),fun j hj=>?_⟩;rw [hr] at hj;obtain rfl:=List.mem_singleton.1 hj;have h2:=h (fun a' w'=>((listed.setIfInBounds j true).getD k true=false→S w')∧wpAnyE P md ops Q S k fuel (listed.setIfInBounds j true) a' w') (fun a w h1 h2=>⟨h1,h2 h1⟩);unfold Go.wpOp;simp only [ho]
  split
  · rename_i hw
    rw [if_pos hw] at h2;exact Or.inl h2
  · rename_i hw
    rw [if_neg hw] at h2;exact h2
theorem wpAnyE_done {listed:Array Bool} {a:Act} {w:World} (hr:Region.ready md ops listed=[]) (h:Q .normal a w) :
 ∀fuel,wpAnyE P md ops Q S k fuel listed a w
 | 0=>⟨hr,h⟩
 | _+1=>⟨fun _=>h,by rw [hr];simp⟩
theorem wp_region_E {id:Nat} {a:Act} {w:World} (k:Nat) (hm:P.follows .mixedOrders=true) (hS:S w.drew)
    (h:S w.drew→wpAnyE P .any ops Q S k ops.size (Array.replicate ops.size false) a w.drew):(Code.region id ops true).wp P Q a w :=
  wp_region_any hm (wpAny_of_E _ _ _ _ (h hS))
end
end
end Go.Proofs.YtkcdhaallnhhmaaGreat
