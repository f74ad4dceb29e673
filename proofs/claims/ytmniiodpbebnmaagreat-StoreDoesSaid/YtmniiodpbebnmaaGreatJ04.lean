/- Part 4 of the proof. -/
import Derived.Test.YtmniiodpbebnmaaGreatJ03
import Derived.Shelf.SlSorted.Search
namespace Go.Proofs.YtmniiodpbebnmaaGreat
set_option linter.unusedSimpArgs false
set_option linter.unusedVariables false
set_option linter.unusedSectionVars false
set_option maxRecDepth 100000
set_option maxHeartbeats 16000000
section
open Go.RowKit Go.Lib
def i0X (til wd:Int):Int:=d0R (d0R (til - wd)+1)
def j0G (l:List Smp) (a b:Int):List Smp:=l.filter fun s=>decide (a≤s.1) && decide (s.1≤b)
def c0P (l:List Smp):List Int:=l.map fun s=>max s.2 0
def d1V:List Int→Int
  | []=>0
  | n::l=>l.foldl min n
def e1W:List Int→Int
  | []=>0
  | n::l=>l.foldl max n
structure StD where
 cnt:Int
 sum:Int
 least:Int
 most:Int
 mean:Int
def stV (s:StD):Value:=.agg #[.int .i64 s.cnt,.int .i64 s.sum,.int .i64 s.least,.int .i64 s.most,.int .i64 s.mean]
def st0:StD:=⟨0,0,0,0,0⟩
def q0F (v:List Int):StD:=if v=[] then st0 else ⟨v.length,p0S v 0,d1V v,e1W v,f0P v⟩
def i0P (l:List Smp) (til wd:Int):StD:=q0F (c0P (j0G l (i0X til wd) til))
def r0Y (l:List Smp):Prop:=∀s∈l,I64 s.1∧I64 s.2
theorem r0Y.cut {l:List Smp} (h:r0Y l) (a b:Int):r0Y (j0G l a b):=fun s hs=>h s (List.mem_filter.1 hs).1
theorem j0K {l:List Smp} (h:r0Y l):∀n∈c0P l,0≤n∧n≤9223372036854775807:=fun n hn=>by
 obtain ⟨s,hs,rfl⟩:=List.mem_map.1 hn;have:=(h s hs).2;unfold I64 at this;omega
theorem j0L (l:List Smp):(c0P l).length=l.length:=by simp [c0P]
theorem s0E (l:List Smp) (a b:Int):(j0G l a b).length≤l.length:=List.length_filter_le _ _
theorem w0P (l:List Smp) (a b:Int) (s:Smp):j0G (l++[s]) a b=j0G l a b++if a≤s.1∧s.1≤b then [s] else []:=by
 unfold j0G;rw [List.filter_append]
 congr 1
 by_cases h1:a≤s.1 <;> by_cases h2:s.1≤b <;> simp [h1,h2]
theorem r0X (l:List Smp) (s:Smp):c0P (l++[s])=c0P l++[max s.2 0]:=by simp [c0P]
theorem i1V {l:List Int} (h:l≠[]) (n:Int):d1V (l++[n])=min (d1V l) n:=by
 cases l with
 | nil=>exact absurd rfl h
 | cons a l=>simp [d1V,List.foldl_append]
theorem l1K {l:List Int} (h:l≠[]) (n:Int):e1W (l++[n])=max (e1W l) n:=by
 cases l with
 | nil=>exact absurd rfl h
 | cons a l=>simp [e1W,List.foldl_append]
theorem w0M (l:List Int) (n:Int):g0U (l++[n])=g0U l+n.toNat:=by rw [p0W];simp [g0U]
theorem b1R {a b:Int} (h:I64 a):I64 (i0H a b):=by
 unfold i0H I64 at *
 split
 · omega
 · rename_i hb
   split
   · have:a.tdiv b = -((-a) / b):=by rw [←Int.neg_neg a,Int.neg_tdiv,Int.tdiv_eq_ediv_of_nonneg (by omega)];simp
     rw [this];have h3:0≤(-a) / b:=Int.ediv_nonneg (by omega) (by omega);have h4:(-a) / b≤-a:=Int.ediv_le_self _ (by omega);omega
   · rw [Int.tdiv_eq_ediv_of_nonneg (by omega)]
     have h3:0≤(a - 1) / b:=Int.ediv_nonneg (by omega) (by omega);have h4:(a - 1) / b≤a - 1:=Int.ediv_le_self _ (by omega);omega
theorem a1S {l:List Int} (h:l≠[]) (m:Nat):g0U l≤m * l.length ↔ f0P l≤m:=by
 have hp:0<l.length:=List.length_pos_iff.2 h;unfold f0P;rw [if_neg h]
 constructor
 · intro q
   apply Nat.le_of_lt_succ
   rw [Nat.div_lt_iff_lt_mul hp,Nat.succ_mul];omega
 · intro q
   have:=(Nat.div_lt_iff_lt_mul hp).1 (Nat.lt_succ_of_le q);rw [Nat.succ_mul] at this;omega
def l0D (p:Pol) (load now:Int):Bool :=
 d0G p && (decide (1≤now∧now≤1073741824) &&
   (decide (load.toNat * 1000≤now.toNat * p.tg.toNat * 1000+now.toNat * p.tg.toNat * p.tol.toNat) &&
    decide (now.toNat * p.tg.toNat * 1000≤load.toNat * 1000+now.toNat * p.tg.toNat * p.tol.toNat)))
def o0Z (p:Pol) (load:Int):Int:=if d0G p=true then i0H (max load 0) p.tg else 0
def f0W (p:Pol) (n:Int):Int:=if d0G p=true then o0I n p.mn p.mx else 0
def b1J (p:Pol) (load now:Int):Int:=if l0D p load now=true then now else o0Z p load
def e0Z (a b:Int) (s:Int × Bool) (x:Adv):Int × Bool :=
 if a<x.tick∧x.tick≤b∧(s.2=false∨s.1<x.want) then (x.want,true) else s
def o0J (l:List Adv) (tick hold:Int):Int × Bool:=l.foldl (e0Z (d0R (tick - hold)) tick) (0,false)
theorem s0C (l:List Adv) (x:Adv) (a b:Int) (s:Int × Bool):(l++[x]).foldl (e0Z a b) s=e0Z a b (l.foldl (e0Z a b) s) x:=by simp
def f0F (p:Pol) (tick want:Int) (past:List Adv):Int × Bool :=
 if (o0J past tick p.hold).2=true∧want<(o0J past tick p.hold).1 then ((o0J past tick p.hold).1,true) else (want,false)
def i0Y:List Smp→Int
  | []=>0
  | s::l=>l.foldl (fun b x=>max b x.1) s.1
def l1A (p:Pol) (past:List Adv):Int:=match past.getLast? with
 | none=>p.mn
 | some a=>a.repl
def p1P (p:Pol) (held:Bool) (op now til:Int):Int :=
 if held=true then 4 else if p.mx<op then 6 else if op<p.mn then 5 else if now<til then 2 else if til<now then 3 else 1
def n0K (p:Pol) (l:List Smp) (past:List Adv):Adv × Int :=
 if d0G p=false then (c0U,7)
 else if l=[] then (c0U,5)
 else
  let tick:=i0Y l
  let load:Int:=(f0P (c0P (j0G l (i0X tick p.win) tick)):Nat)
  let now:=l1A p past
  let op:=b1J p load now
  let want:=f0W p op
  let st:=f0F p tick want past
  let til:=f0W p st.1
  (⟨tick,load,want,til,p1P p st.2 op now til⟩,0)
theorem g1C (l:List Smp) (til wd:Int):(i0P l til wd).mean=(f0P (c0P (j0G l (i0X til wd) til)):Nat):=by
 unfold i0P q0F
 split
 · rename_i h;rw [h];rfl
 · rfl
end
section
open Go.Shelf
def b1L:Go.Shelf.Ren:=⟨fun|16=>279|n=>n,fun|3=>3|35=>185|4=>4|38=>233|n=>n,fun|n=>n⟩
theorem s1V:Go.Proofs.SlLaysO.n16 Tryz.prog b1L:={
  mixed:=by kernel_rfl
  f16:=Tryz.func279.trans (congrArg some (by kernel_rfl))
  t3:=Tryz.underlying3
  a3:=Tryz.isAgg3
  z3:=Tryz.sizeOf3
  v3:=Tryz.zeroValue3
  t4:=Tryz.underlying4
  a4:=Tryz.isAgg4
  z4:=Tryz.sizeOf4
  v4:=Tryz.zeroValue4
  t35:=Tryz.underlying185
  a35:=Tryz.isAgg185
  z35:=Tryz.sizeOf185
  v35:=Tryz.zeroValue185
  t38:=Tryz.underlying233
  a38:=Tryz.isAgg233
  z38:=Tryz.sizeOf233
  v38:=Tryz.zeroValue233 }
end
section
open Go.RowKit Go.Lib Go.Sort Go.Shelf
def g0S (w:World) (S:Nat) (l:List Smp) (room:Int) (fp:List Nat):Prop :=
 ∃v fr,w.heap[S]?=some (.cells #[v,.int .i64 room] 270 (0,0))∧m0Y b0X 111 2 w v l fr∧S∉fr∧fp=S::fr
theorem g0S.kept {w w':World} {S:Nat} {l:List Smp} {room:Int} {fp:List Nat} (h:g0S w S l room fp) (hb:∀r∈fp,w'.heap[r]?=w.heap[r]?):g0S w' S l room fp:=by
 obtain ⟨v,fr,h1,h2,h3,rfl⟩:=h;exact ⟨v,fr,(hb S (List.mem_cons_self ..)).trans h1,h2.kept (fun r hr=>hb r (List.mem_cons_of_mem _ hr)),h3,rfl⟩
theorem g0S.lt {w:World} {S:Nat} {l:List Smp} {room:Int} {fp:List Nat} (h:g0S w S l room fp):∀r∈fp,r<w.heap.size:=by
 obtain ⟨v,fr,h1,h2,h3,rfl⟩:=h;intro r hr
 rcases List.mem_cons.1 hr with rfl|hr
 · exact (jL h1)
 · exact h2.lt r hr
theorem g0S.below {w w':World} {S:Nat} {l:List Smp} {room:Int} {fp:List Nat} (h:g0S w S l room fp) (hb:jB w w'):g0S w' S l room fp:=h.kept (fun r hr=>hb.block r (h.lt r hr))
def b0G (l:List Smp):Prop:=l.Pairwise (fun a b=>a.1<b.1)
def a0Q (l:List Smp) (t:Int):Nat:=l.countP (fun x=>!decide (t≤x.1))
theorem e0S (l:List Smp) (t:Int):a0Q l t≤l.length:=List.countP_le_length ..
theorem n0M (bs bt S g o c n:Nat) (t y:Int) (i:Nat) (W:World) (hi:i<n)
    (h1:W.cell? ⟨bs,0,none⟩=some (.pointer (some ⟨S,0,none⟩))) (h2:W.cell? ⟨bt,0,none⟩=some (.int .i64 t)) (h3:W.cell? ⟨S,0,none⟩=some (.slice (some ⟨g,o,none⟩) n c)) (h4:W.cell? ⟨g,o+i * 2,none⟩=some (.int .i64 y)) :
    Calls Tryz.prog 280 (#[.int .i64 i]++#[.pointer (some ⟨bs,0,none⟩),.pointer (some ⟨bt,0,none⟩)]) W fun e w'=>e=.returned (.bool (decide (t≤y)))∧∃q,w'=W.drewN q:=by
  have hi0:(0:Int)≤(i:Int):=by omega
  have hi1:(i:Int)<(n:Int):=by omega
  go_enter Tryz.func280,Tryz.ntmps280
  go_wp2_with fail
  go_quiet (fail)
  go_wp2
  go_ret
  exact ⟨s0Y (by first|rfl|simp),_,rfl⟩
theorem g1W (w:World) (x y:Value) (T U:TypeId):∀W,W=(w.alloc (.cells #[x] T)).alloc (.cells #[y] U)→W.heap[w.heap.size]?=some (.cells #[x] T (0,0))∧W.heap[w.heap.size+1]?=some (.cells #[y] U (0,0))∧jB w W∧W.heap.size=w.heap.size+2:=by
 rintro W rfl;exact ⟨c0J _ _ _,b0R _ _ _,a0C (a0C jR _) _,by simp⟩
theorem t0B {W:World} {a:Addr} {v:Value} (h:W.cell? a=some v) (hb:a.block<W.heap.size) (m:Nat) (os:Array Obj):(grow (W.drewN m) os).cell? a=some v:=by
 rw [←h];refine World.cell?_of_block ?_;exact Array.getElem?_append_left hb
theorem q1W (w:World) (q:Nat) (os:Array Obj):jB w (grow (w.drewN q) os):=⟨rfl,rfl,rfl,by simp [grow],fun k hk=>Array.getElem?_append_left hk⟩
theorem i0V (S:Nat) (l:List Smp) (room:Int) (fp:List Nat) (t:Int) (w:World) (h:g0S w S l room fp) (hr:b0G l) (hl:l.length≤1000000) :
 Calls Tryz.prog 232 #[.pointer (some ⟨S,0,none⟩),.int .i64 t] w (jP w (.int .i64 (a0Q l t:Nat))):=by
 obtain ⟨v,fr,hS,hrow,_,_⟩:=h;have hSlt:=(jL hS);obtain ⟨A,c,rfl⟩:=hrow.form;have hR:=hrow.row d0J;obtain ⟨W,hW⟩:∃W,W=(w.alloc (.cells #[.pointer (some ⟨S,0,none⟩)] 209)).alloc (.cells #[.int .i64 t] 2):=⟨_,rfl⟩;obtain ⟨b1,b2,hbW,hsz⟩:=g1W w _ _ _ _ W hW;have hS1:=(hbW.block S hSlt).trans hS;obtain ⟨k1,k2,k3⟩:=a0A jR hS1;obtain ⟨k4,k5,k6⟩:=a0A jR b1;obtain ⟨k7,k8,k9⟩:=a0A jR b2
 have eg:∀args w,(callFunc 280 args).run Tryz.prog w=.ok (.enter 280 args) w:=enters_of Tryz.func280 (by kernel_rfl) rfl;have hcall:Calls Tryz.prog 279 #[.int .i64 l.length,.func (.func 280) #[] #[.pointer (some ⟨w.heap.size,0,none⟩),.pointer (some ⟨w.heap.size+1,0,none⟩)]] W fun e w'=>e=.returned (.int .i64 (a0Q l t:Nat))∧∃q os,w'=grow (W.drewN q) os:=by
  have hS:=Any.sort_Search s1V 280 #[.pointer (some ⟨w.heap.size,0,none⟩),.pointer (some ⟨w.heap.size+1,0,none⟩)] l.length (fun i=>decide (t≤((l.map (·.1)).toArray[i]!))) W eg (by omega)
    (fun m os i hi=>by
      obtain ⟨g,o,rfl,hg,hc⟩:=(hR.below hbW).at_ hi;have hy:(l.map (·.1)).toArray[i]! = l[i].1:=by rw [getElem!_pos _ i (by simpa using hi)];simp
      simp only [hy]
      have:=n0M w.heap.size (w.heap.size+1) S g o c l.length t l[i].1 i (grow (W.drewN m) os) hi (t0B (k4 0) k6 m os) (t0B (k7 0) k9 m os) (t0B (k1 0) k3 m os) (t0B (hc 0 _ rfl) hg m os);exact this.mono fun _ _ ⟨he,q,hq⟩=>⟨he,q,#[],by rw [hq,grow_empty]⟩)
    (fun a b hab hb h=>by
      have ha:a<l.length:=by omega
      have e1:(l.map (·.1)).toArray[a]! = l[a].1:=by rw [getElem!_pos _ a (by simpa using ha)];simp
      have e2:(l.map (·.1)).toArray[b]! = l[b].1:=by rw [getElem!_pos _ b (by simpa using hb)];simp
      simp only [e1,e2,decide_eq_true_eq] at h ⊢
      rcases Nat.lt_or_ge a b with hlt|hge
      · have:=List.pairwise_iff_getElem.1 hr a b ha hb hlt
        omega
      · obtain rfl:a=b:=by omega
        exact h)
  have hlen:l.length=(l.map (·.1)).toArray.size:=by simp
  rw [show (List.range l.length).countP (fun i=>!decide (t≤(l.map (·.1)).toArray[i]!))=a0Q l t from by
   rw [hlen,Lib.countP_range (l.map (·.1)).toArray (fun y=>!decide (t≤y))];simp only [a0Q,List.countP_map]
   rfl] at hS
  exact hS
 have HC:=jH hcall;have hc0:=k1 0;have hc1:=k4 0;simp only [List.getElem?_toArray,List.getElem?_cons_zero] at hc0 hc1
 clear hcall k1 k4 k7 hS1 hr hrow hR eg
 go_enter Tryz.func232,Tryz.ntmps232
 have q0:w.cell? ⟨S,0,none⟩=some (.slice A l.length c):=by simp only [World.cell?,hS];rfl
 go_wp2_with (go_at_call 279;rw [←hW];refine HC.out.mono ?_;rintro e w1 ⟨rfl,q1,os1,rfl⟩)
 go_ret
 exact ⟨rfl,by rw [←hW];exact a0D hbW (q1W W _ _)⟩
end
section
open Go.RowKit Go.Lib
def p0H:Value:=.tuple #[.agg #[.int .u64 0,.int .u64 0],.int .i64 2]
def k0Q (s:ByteArray):Value:=if idS s=true then .tuple #[.agg #[.int .u64 (hiN s.data.toList),.int .u64 (loN s.data.toList)],.int .i64 0] else p0H
theorem d1I (s:ByteArray) (w:World) (hm:s.size≤maxLen) (hb:idS s=false) :
 Calls Tryz.prog 81 #[.string s] w fun e w'=>e=.returned p0H∧jB w w':=by
 have hc:k0Z s=2:=by simp [k0Z,hb]
 have Hc:=jH hc;clear hc hb
 go_enter Tryz.func81,Tryz.ntmps81
 go_wp2_with (go_at_call 56;refine (e0A _ _ hm).mono ?_;rw [Hc.out];rintro e w1 ⟨rfl,hb1⟩;obtain ⟨hc1,hf1⟩:=t1N hb1;have hz1:=hb1.size;simp at hz1)
 exact bodyPost_ret (v:=p0H) (by simp [p0H,results,Tryz.results81,go_sem,hc1,hf1]) rfl ⟨rfl,(((jR.alloc (Nat.le_refl _) _).trans (hb1.mono (by simp))).setCell (by simp) _).setCell (by simp) _⟩
theorem w0G (l:List UInt8) (a m pos:Nat) (hm:m<10) (hpos:pos % 10=m) (c:UInt8) (q:Nat) (hq:a+m=q) (hcq:dig l q=e0L c) :
 bits BinOp.or IntKind.u64 (g0F l a m:Nat) (IntKind.u64.wrap (m0T (c.toNat:Int) * 2 ^ (6 * (9 - (pos:Int) % 10)).toNat))=(g0F l a (m+1):Nat):=by
 have hc:dig l (a+m)=e0L c:=by rw [hq];exact hcq
 have h1:=c1R l a m (by omega);have h2:=g1R l a m hm;have h3:=c1R l a (m+1) (by omega);have e:(6 * (9 - (pos:Int) % 10)).toNat=6 * (9 - m):=by omega
 have hle:dig l (a+m) <<< (6 * (9 - m))≤g0F l a (m+1):=by rw [←h2];exact Nat.right_le_or
 rw [Nat.shiftLeft_eq,hc] at h2 hle;rw [e,m0F];have e2:((e0L c:Nat):Int) * 2 ^ (6 * (9 - m))=((e0L c * 2 ^ (6 * (9 - m)):Nat):Int):=by
  rw [Int.natCast_mul,Int.natCast_pow];rfl
 rw [e2,c0E _ (by omega),u64_or_nat _ _ (by omega) (by omega),h2]
theorem m1B (s:ByteArray) (w:World) (hm:s.size≤maxLen) (hb:idS s=true) :
 Calls Tryz.prog 81 #[.string s] w (jP w (k0Q s)):=by
 have hc:k0Z s=0:=by simp [k0Z,hb]
 have Hc:=jH hc;obtain ⟨hl1,hl2,hok⟩:=d1N s hb;have hv:k0Q s=.tuple #[.agg #[.int .u64 (hiN s.data.toList),.int .u64 (loN s.data.toList)],.int .i64 0]:=by simp [k0Q,hb]
 have Hv:=jH hv;clear hc hb hv
 go_enter Tryz.func81,Tryz.ntmps81
 go_wp2_with (go_at_call 56;refine (e0A _ _ hm).mono ?_;rw [Hc.out];rintro e w1 ⟨rfl,hb1⟩;obtain ⟨hc1,hf1⟩:=t1N hb1;have hz1:=hb1.size;simp at hz1)
 go_loopw [6,7,8] (fun _ _ _ w'=>∃pos n:Nat,pos≤s.size∧w'=((w1.alloc (.cells #[.int .u64 (g0F s.data.toList 0 (min pos 10):Nat),.int .u64 (g0F s.data.toList 10 (pos - 10):Nat)] 74)).alloc (.stringIter s pos)).drewN n) (fun _ _ _ w'=>s.size - w'.iterPos (w1.heap.size+1))
 case atStart=>exact ⟨0,0,Nat.zero_le _,by simp [f1S];rfl⟩
 case round =>
  obtain ⟨pos,n,hp0,rfl⟩:=hrel
  by_cases hp:pos<s.size
  · have hbt:=hok pos hp hp
    have ha:=u0R _ hbt;have hnx:∀ty,(Instr.next (.pointer (some ⟨w1.heap.size+1,0,none⟩)) true ty).run Tryz.prog (((w1.alloc (.cells #[.int .u64 (g0F s.data.toList 0 (min pos 10):Nat),.int .u64 (g0F s.data.toList 10 (pos - 10):Nat)] 74)).alloc (.stringIter s pos)).drewN n)=_:=fun ty=>v0W (w1.alloc _) s pos n _ ty (by simp) hp ha
    have hbd:=t0I (s[pos]).toNat;have hdg:dig s.data.toList pos=e0L s[pos]:=by rw [r1X _ _ (by simpa using hp)];rfl
    by_cases h10:pos<10
    · have hst:=w0G s.data.toList 0 pos pos h10 (by omega) s[pos] pos (by omega) hdg
      have Hst:=jH hst;clear hbt hst hdg;go_wp2
      go_region_with (go_at_call 124;refine (n0U _ _ (by omega) (by omega)).mono ?_;rintro e w' ⟨rfl,rfl⟩)
      all_goals
        go_roundw
        case rel =>
         (repeat apply Exists.intro)
         refine ⟨⟨pos+1,n+1,by omega,?_⟩,rfl⟩;rw [Nat.min_eq_left (Nat.le_of_lt h10),Hst.out,Nat.min_eq_left (show pos+1≤10 by omega),show pos - 10=pos+1 - 10 by omega]
        case measure=>rw [k0T _ _ _ _ _ (by simp),k0T _ _ _ _ _ (by simp)];omega
    · have hst:=w0G s.data.toList 10 (pos - 10) pos (by omega) (by omega) s[pos] pos (by omega) hdg
      have Hst:=jH hst;clear hbt hst hdg;go_wp2
      go_region_with (go_at_call 124;refine (n0U _ _ (by omega) (by omega)).mono ?_;rintro e w' ⟨rfl,rfl⟩)
      all_goals
        go_roundw
        case rel =>
         (repeat apply Exists.intro)
         refine ⟨⟨pos+1,n+1,by omega,?_⟩,rfl⟩;rw [Hst.out,show min pos 10=min (pos+1) 10 by omega,show pos - 10+1=pos+1 - 10 by omega]
        case measure=>rw [k0T _ _ _ _ _ (by simp),k0T _ _ _ _ _ (by simp)];omega
  · have hnx:∀ty,(Instr.next (.pointer (some ⟨w1.heap.size+1,0,none⟩)) true ty).run Tryz.prog (((w1.alloc (.cells #[.int .u64 (g0F s.data.toList 0 (min pos 10):Nat),.int .u64 (g0F s.data.toList 10 (pos - 10):Nat)] 74)).alloc (.stringIter s pos)).drewN n)=_:=fun ty=>e1O (w1.alloc _) s pos n _ ty (by simp) hp
    have hv1:g0F s.data.toList 0 (min pos 10)=hiN s.data.toList:=by
     rcases Nat.lt_or_ge pos 10 with h|h
     · exact u0Z _ _ _ (by omega) (by simp;omega)
     · rw [Nat.min_eq_right h,k1U];rfl
    have hv2:g0F s.data.toList 10 (pos - 10)=loN s.data.toList:=u0Z _ _ _ (by omega) (by simp;omega);rw [←hv1,←hv2] at Hv;clear hv1 hv2;have q1:w.heap.size<w1.heap.size:=by omega
    have q2:w.heap.size<w1.heap.size+1:=by omega
    have q3:w.heap.size≠w1.heap.size:=by omega
    have q4:w.heap.size≠w1.heap.size+1:=by omega
    have q5:w1.cell? ⟨w.heap.size,0,none⟩=some (.int .u64 0):=by rw [hc1 _ _ (by simp)];simp [go_sem]
    have q6:w1.cell? ⟨w.heap.size,1,none⟩=some (.int .u64 0):=by rw [hc1 _ _ (by simp)];simp [go_sem]
    have q7:w1.frozen? ⟨w.heap.size,0,none⟩=false:=by rw [hf1 _ _ (by simp)];simp [go_sem]
    have q8:w1.frozen? ⟨w.heap.size,1,none⟩=false:=by rw [hf1 _ _ (by simp)];simp [go_sem]
    go_wp2
    exact bodyPost_ret (v:=k0Q s) (by rw [Hv.out];simp [results,Tryz.results81,go_sem,q1,q5,q6,q7,q8]) rfl
      ⟨rfl,a0F (((((jR.alloc (Nat.le_refl _) _).trans (hb1.mono (by simp))).setCell (by simp) _).setCell (by simp) _).alloc (by simp [World.setCell];omega) _ |>.alloc (by simp [World.setCell];omega) _) n⟩
theorem n0W (s:ByteArray) (w:World) (hm:s.size≤maxLen) :
 Calls Tryz.prog 81 #[.string s] w (jP w (k0Q s)):=by
 cases hb:idS s with
 | true=>exact m1B s w hm hb
 | false =>
   have:k0Q s=p0H:=by simp [k0Q,hb]
   rw [this];exact d1I s w hm hb
def i0M (a b c d:Nat):Int:=if a=c∧b=d then 0 else if a<c∨a=c∧b<d then -1 else 1

def h0W:List UInt8:=[45,46,48,49,50,51,52,53,54,55,56,57,95,97,98,99,100,101,102,103,104,105,106,107,108,109,110,111,112,113,114,115,116,117,118,119,120,121,122]
theorem m0W:∀i,i<39→e0L (h0W.getD i 0)=i+1:=by decide
theorem f1F (c:UInt8) (h:∀j,j<39→h0W.getD j 0≠c):e0L c=0:=by
 rcases Nat.eq_zero_or_pos (e0L c) with h0|h0
 · exact h0
 · have hle:=d1E c
   have e:=m0W (e0L c - 1) (by omega);refine absurd ?_ (h (e0L c - 1) (by omega));have hok:okB (h0W.getD (e0L c - 1) 0)=true:=by rw [okB,decide_eq_true_eq];omega
   exact k1A _ _ hok (by omega)
def i0F:ByteArray:=⟨h0W.toArray⟩
theorem m0V (k:Nat) (h:k<i0F.size):i0F[k]=h0W.getD k 0:=by
 have h':k<h0W.length:=h;simp only [List.getD,List.getElem?_eq_getElem h',Option.getD_some]
 rfl
theorem k0X (c:UInt8) (w:World) :
 Calls Tryz.prog 73 #[.int .u8 (c.toNat:Nat)] w fun e w'=>e=.returned (.int .u64 (e0L c:Nat))∧w=w':=by
 go_enter Tryz.func73,Tryz.ntmps73
 go_wp2
 go_loop [3] (fun i=>∃k:Nat,k≤39∧i=.int .i64 k∧∀j,j<k→h0W.getD j 0≠c) (fun i=>39 - (intOf i).toNat)
 case atStart=>exact ⟨0,by omega,rfl,fun j hj=>absurd hj (by omega)⟩
 case round =>
  obtain ⟨k,hk,rfl,hno⟩:=hrel
  by_cases hlt:k<39
  · have Hno:=jH hno
    have hsz:k<i0F.size:=hlt;clear hno;go_wp2
    · have hq:(((i0F[k].toNat:Nat):Int) == ((c.toNat:Nat):Int))=true:=by assumption
      have hq':i0F[k]=c:=UInt8.toNat_inj.1 (Int.ofNat.inj (beq_iff_eq.1 hq));rw [m0V k hsz] at hq';go_ret
      refine ⟨c0G ?_,rfl⟩;rw [←hq',m0W k hlt];rfl
    · have hq:(((i0F[k].toNat:Nat):Int) == ((c.toNat:Nat):Int))=false:=by assumption
      have hq':i0F[k]≠c:=fun e=>by
       have:=beq_eq_false_iff_ne.1 hq;exact this (congrArg (fun b:UInt8=>((b.toNat:Nat):Int)) e)
      rw [m0V k hsz] at hq'
      go_round
      case rel =>
       refine ⟨k+1,by omega,by go_num,fun j hj=>?_⟩
       rcases Nat.lt_or_ge j k with h|h
       · exact Hno.out j h
       · obtain rfl:j=k:=by omega
         exact hq'
      case measure=>simp [intOf];omega
  · obtain rfl:k=39:=by omega
    have h0:=f1F c hno;clear hno;go_wp2
    go_ret
    exact ⟨rfl,rfl⟩
theorem h0C (s:ByteArray) (w:World) (hm:s.size≤maxLen) :
 Calls Tryz.prog 21 #[.string s] w fun e w'=>e=.returned (.bool (idS s))∧w=w':=by
 unfold maxLen at hm
 by_cases h1:s.size<1
 · rw [u0C s (.inl h1)]
   go_enter Tryz.func21,Tryz.ntmps21
   go_wp2
   go_ret
   exact ⟨rfl,rfl⟩
 · by_cases h2:20<s.size
   · rw [u0C s (.inr h2)]
     go_enter Tryz.func21,Tryz.ntmps21
     go_wp2
     go_ret
     exact ⟨rfl,rfl⟩
   · go_enter Tryz.func21,Tryz.ntmps21
     go_wp2
     go_loop [3] (fun i=>∃k:Nat,k≤s.size∧i=.int .i64 k∧r1F s k) (fun i=>s.size - (intOf i).toNat)
     case atStart=>exact ⟨0,Nat.zero_le _,rfl,v0G s⟩
     case round =>
      obtain ⟨k,hk,rfl,hok⟩:=hrel
      by_cases hlt:k<s.size
      · cases hb:okB s[k] with
        | true =>
          have hok':=x0G s k hok hlt hb;have hc:((e0L s[k]:Int) == 0)=false:=by simpa [okB] using hb
          have Hok':=jH hok';clear hb hok hok'
          go_wp2_with (go_at_call 73;refine (k0X _ _).mono ?_;rintro e w' ⟨rfl,rfl⟩)
          go_round
          case rel=>exact ⟨k+1,hlt,by go_num,Hok'.out⟩
          case measure=>simp [intOf];omega
        | false =>
          have hf:=l1O s k hlt hb;have hc:((e0L s[k]:Int) == 0)=true:=by simpa [okB] using hb
          have Hf:=jH hf;clear hb hok hf
          go_wp2_with (go_at_call 73;refine (k0X _ _).mono ?_;rintro e w' ⟨rfl,rfl⟩)
          go_ret
          rw [Hf.out];exact ⟨rfl,rfl⟩
      · obtain rfl:k=s.size:=by omega
        have hf:=j1H s (by omega) (by omega) hok;have Hf:=jH hf;clear hf hok;go_wp2
        go_ret
        rw [Hf.out];exact ⟨rfl,rfl⟩
def keyS (s:ByteArray):Value:=x0D (hiN s.data.toList) (loN s.data.toList)
theorem d1K (l:List UInt8) (a n:Nat) (h:n≤9):l0E l a n<18014398509481984 :=
 Nat.lt_of_lt_of_le (u0A l a n) (Nat.pow_le_pow_right (n:=64) (j:=9) (by decide) h)
theorem h1A (s:ByteArray) (w:World) (hm:s.size≤maxLen) (hid:idS s=true) :
 Calls Tryz.prog 112 #[.string s] w (jP w (keyS s)):=by
 have Hid:=jH hid;unfold keyS x0D;unfold maxLen at hm;obtain ⟨hs1,hs2,_⟩:=d1N s hid;clear hid
 go_enter Tryz.func112,Tryz.ntmps112
 go_wp2_with (go_at_call 21;refine (h0C _ _ hm).mono ?_;rw [Hid.out];rintro e w' ⟨rfl,rfl⟩)
 go_loopw [4,5] (fun i _ w'=>∃k:Nat,k≤20∧i=.int .i64 k∧w'=(w.alloc (.cells #[.int .u64 0,.int .u64 0] 74)).alloc (.cells #[.int .u64 (l0E s.data.toList 0 (min k 10):Nat),.int .u64 (l0E s.data.toList 10 (k - 10):Nat)] 74)) (fun i _ _=>20 - (intOf i).toNat)
 case atStart=>exact ⟨0,by omega,rfl,rfl⟩
 case round =>
  obtain ⟨k,hk,rfl,rfl⟩:=hrel
  by_cases hlt:k<20
  · have d1:=c1A s.data.toList k
    have hgd:∀h:k<s.size,dig s.data.toList k=e0L (s[k]'h):=fun h=>by rw [r1X _ _ (by simpa using h)];rfl
    by_cases h10:k<10
    · have hst:l0E s.data.toList 0 (min (k+1) 10)=l0E s.data.toList 0 (min k 10) * 64+dig s.data.toList k:=by
       rw [Nat.min_eq_left (by omega),Nat.min_eq_left (by omega),l0E,Nat.zero_add]
      have n3:=d1K s.data.toList 0 (min k 10) (by omega);have e2:k - 10=k+1 - 10:=by omega
      have E2:=jH e2;clear e2
      by_cases hin:k<s.size
      · rw [hgd hin] at hst d1
        have Hst:=jH hst;clear hst hgd
        go_wp2_with (go_at_call 73;refine (k0X _ _).mono ?_;rintro e w' ⟨rfl,rfl⟩)
        go_roundw
        case rel =>
         refine ⟨k+1,by omega,by go_num,?_⟩;rw [Hst.out,E2.out];simp
        case measure=>simp [intOf];omega
      · have hd0:dig s.data.toList k=0:=z0Q _ _ (by simp;omega)
        rw [hd0] at hst;have Hst:=jH hst;clear hst hd0 hgd;go_wp2
        go_roundw
        case rel =>
         refine ⟨k+1,by omega,by go_num,?_⟩;rw [Hst.out,E2.out];simp
        case measure=>simp [intOf];omega
    · have hst:l0E s.data.toList 10 (k+1 - 10)=l0E s.data.toList 10 (k - 10) * 64+dig s.data.toList k:=by
       rw [show k+1 - 10=(k - 10)+1 by omega,l0E,show 10+(k - 10)=k by omega]
      have n3:=d1K s.data.toList 10 (k - 10) (by omega);have e2:min k 10=min (k+1) 10:=by omega
      have E2:=jH e2;clear e2
      by_cases hin:k<s.size
      · rw [hgd hin] at hst d1
        have Hst:=jH hst;clear hst hgd
        go_wp2_with (go_at_call 73;refine (k0X _ _).mono ?_;rintro e w' ⟨rfl,rfl⟩)
        go_roundw
        case rel =>
         refine ⟨k+1,by omega,by go_num,?_⟩;rw [Hst.out,E2.out];simp
        case measure=>simp [intOf];omega
      · have hd0:dig s.data.toList k=0:=z0Q _ _ (by simp;omega)
        rw [hd0] at hst;have Hst:=jH hst;clear hst hd0 hgd;go_wp2
        go_roundw
        case rel =>
         refine ⟨k+1,by omega,by go_num,?_⟩;rw [Hst.out,E2.out];simp
        case measure=>simp [intOf];omega
  · obtain rfl:k=20:=by omega
    go_wp2
    exact bodyPost_ret (v:=.agg #[.int .u64 (hiN s.data.toList:Nat),.int .u64 (loN s.data.toList:Nat)]) (by simp [results,Tryz.results112,go_sem];exact ⟨rfl,rfl⟩) rfl
      ⟨rfl,(jR.alloc (Nat.le_refl _) _).alloc (by simp) _⟩
section
theorem b0P (n:Int) (w:World) (hn:I64 n) :
 Calls Tryz.prog 110 #[.int .i64 n] w fun e w'=>e=.returned (.bool (e0X n))∧w=w':=by
 obtain ⟨hn1,hn2⟩:=hn
 by_cases h1:1≤n
 · by_cases h2:n≤64
   · obtain ⟨k,rfl⟩:=Int.eq_ofNat_of_zero_le (show 0≤n by omega)
     have hq:=st_and k (by omega) (by omega);generalize e0X (k:Int)=b at hq
     go_enter Tryz.func110,Tryz.ntmps110
     go_wp2
     go_ret
     exact ⟨rfl,rfl⟩
   · have hb:e0X n=false:=by
      cases hb:e0X n with
      | false=>rfl
      | true=>exact absurd (c0B n hb).2 h2
     rw [hb]
     go_enter Tryz.func110,Tryz.ntmps110
     go_wp2
     go_ret
     exact ⟨rfl,rfl⟩
 · have hb:e0X n=false:=by
    cases hb:e0X n with
    | false=>rfl
    | true=>exact absurd (c0B n hb).1 h1
   rw [hb]
   go_enter Tryz.func110,Tryz.ntmps110
   go_wp2
   go_ret
   exact ⟨rfl,rfl⟩
theorem g0E (c:Cfg) (w:World) (hc:c.ok) :
 Calls Tryz.prog 46 #[j0Q c] w (jP w (.int .i64 (i1D c))):=by
 obtain ⟨st,sa,lo,hi⟩:=c;obtain ⟨h1,h2,h3,h4⟩:=hc;have H1:=jH h1;simp only [I64] at h1 h2 h3 h4
 unfold j0Q
 cases hb:e0X st with
 | false =>
   have hf:i1D ⟨st,sa,lo,hi⟩=1:=by simp [i1D,i0L,hb]
   rw [hf];have Hb:=jH hb;clear hb hf
   go_enter Tryz.func46,Tryz.ntmps46
   go_wp2_with (go_at_call 110;refine (b0P _ _ H1.out).mono ?_;rw [Hb.out];rintro e w' ⟨rfl,rfl⟩)
   all_goals
     go_ret
     exact ⟨rfl,jR.alloc (Nat.le_refl _) _⟩
 | true =>
   have Hb:=jH hb;clear hb
   go_enter Tryz.func46,Tryz.ntmps46
   go_wp2_with (go_at_call 110;refine (b0P _ _ H1.out).mono ?_;rw [Hb.out];rintro e w' ⟨rfl,rfl⟩)
   all_goals
     go_ret
     refine ⟨c0G ?_,jR.alloc (Nat.le_refl _) _⟩;simp only [i1D,i0L,Hb.out,Bool.true_and,decide_eq_true_eq]
     split <;> omega
theorem b0I (t v:Int) (w:World) :
 Calls Tryz.prog 102 #[.int .i64 t,.int .i64 v] w fun e w'=>e=.returned (.int .i64 (g0V t v))∧w=w':=by
 go_enter Tryz.func102,Tryz.ntmps102
 go_wp2
 all_goals
   go_ret
   refine ⟨c0G ?_,rfl⟩;unfold g0V
   repeat' split
   all_goals omega
theorem q0G (t v:Int) (w:World) :
 Calls Tryz.prog 91 #[.int .i64 t,.int .i64 v] w fun e w'=>e=.returned (.int .i64 (g0V t v))∧w=w':=by
 go_enter Tryz.func91,Tryz.ntmps91
 go_wp2
 all_goals
   go_ret
   refine ⟨c0G ?_,rfl⟩;unfold g0V
   repeat' split
   all_goals omega
theorem b0E (p:Pol) (w:World) :
 Calls Tryz.prog 103 #[b0W p] w (jP w (.int .i64 (j0N p))):=by
 obtain ⟨a,b,c,d,f,g⟩:=p;unfold b0W
 go_enter Tryz.func103,Tryz.ntmps103
 go_wp2
 all_goals
   go_ret
   refine ⟨c0G ?_,jR.alloc (Nat.le_refl _) _⟩;simp only [j0N,d0G,decide_eq_true_eq]
   split <;> omega
theorem j0X (p:Pol) (w:World) :
 Calls Tryz.prog 92 #[b0W p] w (jP w (.bool (d0G p))):=by
 obtain ⟨a,b,c,d,f,g⟩:=p;unfold b0W
 go_enter Tryz.func92,Tryz.ntmps92
 go_wp2
 all_goals
   go_ret
   refine ⟨s0Y ?_,jR.alloc (Nat.le_refl _) _⟩;rw [Bool.eq_iff_iff];simp only [d0G,decide_eq_true_eq,Bool.false_eq_true,false_iff]
   omega
theorem i0B (n:Int) (w:World) :
 Calls Tryz.prog 47 #[.int .i64 n] w fun e w'=>e=.returned (.int .i64 (m0G n))∧w=w':=by
 go_enter Tryz.func47,Tryz.ntmps47
 go_wp2
 go_loop [3,4] (fun p b=>∃k:Nat,k≤7∧b=.int .i64 k∧p=.int .i64 ((2 ^ k:Nat):Int)∧∀j,j<k→n≠((2 ^ j:Nat):Int)) (fun _ b=>7 - (intOf b).toNat)
 case atStart=>exact ⟨0,by omega,rfl,rfl,fun j hj=>absurd hj (by omega)⟩
 case round =>
  obtain ⟨k,hk,rfl,rfl,hno⟩:=hrel
  by_cases hlt:k<7
  · have hp:2 ^ k≤2 ^ 6:=Nat.pow_le_pow_right (by decide) (by omega)
    by_cases he:n=((2 ^ k:Nat):Int)
    · have hv:=w0T k hlt
      rw [←he] at hv;have hq:(n == ((2 ^ k:Nat):Int))=true:=by simp [he]
      have Hv:=jH hv;clear hv he hno;generalize 2 ^ k=m at *;go_wp2
      go_ret
      exact ⟨c0G Hv.out.symm,rfl⟩
    · have hq:(n == ((2 ^ k:Nat):Int))=false:=by simpa using he
      have hno':∀j,j<k+1→n≠((2 ^ j:Nat):Int):=by
       intro j hj
       rcases Nat.lt_or_ge j k with h|h
       · exact hno j h
       · obtain rfl:j=k:=by omega
         exact he
      have Hno:=jH hno';have hm:2 ^ (k+1)=2 ^ k * 2:=Nat.pow_succ 2 k;clear he hno hno';generalize hx:2 ^ k=m at *;have Hm:=jH hm;have Hx:=jH hx;clear hm hx;go_wp2
      go_round
      case rel=>exact ⟨k+1,by omega,by go_num,by rw [Hm.out];simp,Hno.out⟩
      case measure=>simp [intOf];omega
  · obtain rfl:k=7:=by omega
    have hv:=h1T n hno;have Hv:=jH hv;clear hv hno hlt hk;go_wp2
    go_ret
    exact ⟨c0G Hv.out.symm,rfl⟩
theorem h0F (c:Cfg) (w:World) :
 Calls Tryz.prog 13 #[j0Q c] w (jP w (.bool (i0L c))):=by
 obtain ⟨st,sa,lo,hi⟩:=c;unfold j0Q;have hb:=c1V st;have Hb:=jH hb;clear hb
 go_enter Tryz.func13,Tryz.ntmps13
 go_wp2_with (go_at_call 47;refine (i0B _ _).mono ?_;generalize m0G st=b at *;rintro e w' ⟨rfl,rfl⟩)
 all_goals
   go_ret
   refine ⟨s0Y ?_,jR.alloc (Nat.le_refl _) _⟩;have hb:=Hb.out;simp only [i0L]
   rw [←hb,Bool.eq_iff_iff];simp only [Bool.and_eq_true,decide_eq_true_eq,Bool.false_eq_true,false_iff]
   omega
theorem k0U (c:c0D):c.kind=1∨c.kind=2∨c.kind=3∨c.kind=4∨c.kind=5∨c.kind=6∨c.kind=7∨c.kind=8∨(c.kind<1∨8<c.kind):=by omega
def d0Q (k:Int) (id:ByteArray) (tick val handle a b tg tol win hold:Int):c0D:=⟨k,id,tick,val,handle,⟨a,b,tg,tol,win,hold⟩⟩
section
variable (id:ByteArray) (tick val handle a b tg tol win hold:Int) (w:World)
theorem w0I (hid:id.size≤maxLen) :
 Calls Tryz.prog 42 #[b0A (d0Q 1 id tick val handle a b tg tol win hold)] w (jP w (.int .i64 (if idS id=true then g0V tick val else 2))):=by
 unfold b0A d0Q;simp only
 cases hi:idS id with
 | false =>
   have hv:k0Z id=2:=by simp [k0Z,hi]
   have Hv:=jH hv;clear hv hi
   go_enter Tryz.func42,Tryz.ntmps42
   go_wp2
   go_region_held3 (fun w'=>(∀j,w'.cell? ⟨w.heap.size,j,none⟩=(#[.int .i64 1,.string id,.int .i64 tick,.int .i64 val,.int .i64 handle,.int .i64 a,.int .i64 b,.int .i64 tg,.int .i64 tol,.int .i64 win,.int .i64 hold]:Array Value)[j]?)∧jB w w'∧w.heap.size<w'.heap.size)
     (first|assumption|exact o1Q (i0K w _ _)|exact q0P (by assumption) hb1 rfl)
     (first
       | (go_at_call 56;refine (e0A _ _ hid).mono ?_;rw [Hv.out];rintro e w1 ⟨rfl,hb1⟩)
       | (go_at_call 102;refine (b0I _ _ _).mono ?_;rintro e w' ⟨rfl,rfl⟩))
   all_goals
     have hX:=‹(∀j,w1.cell? _=_)∧_›;have hfin:=hX.2.1;clear hX;go_wp2
     go_ret
     exact ⟨rfl,hfin⟩
 | true =>
   have hv:k0Z id=0:=by simp [k0Z,hi]
   have Hv:=jH hv;clear hv hi
   go_enter Tryz.func42,Tryz.ntmps42
   go_wp2
   go_region_held3 (fun w'=>(∀j,w'.cell? ⟨w.heap.size,j,none⟩=(#[.int .i64 1,.string id,.int .i64 tick,.int .i64 val,.int .i64 handle,.int .i64 a,.int .i64 b,.int .i64 tg,.int .i64 tol,.int .i64 win,.int .i64 hold]:Array Value)[j]?)∧jB w w'∧w.heap.size<w'.heap.size)
     (first|assumption|exact o1Q (i0K w _ _)|exact q0P (by assumption) hb1 rfl)
     (first
       | (go_at_call 56;refine (e0A _ _ hid).mono ?_;rw [Hv.out];rintro e w1 ⟨rfl,hb1⟩)
       | (go_at_call 102;refine (b0I _ _ _).mono ?_;rintro e w' ⟨rfl,rfl⟩))
   all_goals
     have hX:=‹(∀j,w1.cell? _=_)∧_›;have hfin:=hX.2.1;clear hX;go_wp2
     go_ret
     exact ⟨rfl,hfin⟩
theorem v0S :
 Calls Tryz.prog 42 #[b0A (d0Q 2 id tick val handle a b tg tol win hold)] w (jP w (.int .i64 (if tick<0 then 3 else 0))):=by
 unfold b0A d0Q;simp only
 by_cases ht:tick<0
 · have hv:g0V tick 0=3:=by simp [g0V,ht]
   have Hv:=jH hv;clear hv;rw [if_pos ht];clear ht
   go_enter Tryz.func42,Tryz.ntmps42
   go_wp2_with (go_at_call 102;refine (b0I _ _ _).mono ?_;rw [Hv.out];rintro e w' ⟨rfl,rfl⟩)
   go_ret
   exact ⟨rfl,a0C jR _⟩
 · have hv:g0V tick 0=0:=by simp [g0V,ht]
   have Hv:=jH hv;clear hv;rw [if_neg ht];clear ht
   go_enter Tryz.func42,Tryz.ntmps42
   go_wp2_with (go_at_call 102;refine (b0I _ _ _).mono ?_;rw [Hv.out];rintro e w' ⟨rfl,rfl⟩)
   go_ret
   exact ⟨rfl,a0C jR _⟩
theorem u0G (hid:id.size≤maxLen) :
 Calls Tryz.prog 42 #[b0A (d0Q 6 id tick val handle a b tg tol win hold)] w (jP w (.int .i64 (if idS id=true then j0N ⟨a,b,tg,tol,win,hold⟩ else 2))):=by
 unfold b0A d0Q;simp only
 cases hi:idS id with
 | false =>
   have hv:k0Z id=2:=by simp [k0Z,hi]
   have Hv:=jH hv;clear hv hi
   go_enter Tryz.func42,Tryz.ntmps42
   go_wp2
   go_region_held3 (fun w'=>(∀j,w'.cell? ⟨w.heap.size,j,none⟩=(#[.int .i64 6,.string id,.int .i64 tick,.int .i64 val,.int .i64 handle,.int .i64 a,.int .i64 b,.int .i64 tg,.int .i64 tol,.int .i64 win,.int .i64 hold]:Array Value)[j]?)∧jB w w'∧w.heap.size<w'.heap.size)
     (first|assumption|exact o1Q (i0K w _ _)|exact q0P (by assumption) hb1 rfl|exact q0P (by assumption) hb2 rfl)
     (first
       | (go_at_call 56;refine (e0A _ _ hid).mono ?_;rw [Hv.out];rintro e w1 ⟨rfl,hb1⟩)
       | (go_at_call 103;refine (b0E ⟨a,b,tg,tol,win,hold⟩ _).mono ?_;rintro e w2 ⟨rfl,hb2⟩))
   all_goals
     have hX:=‹(∀j,w2.cell? _=_)∧_›;have hfin:=hX.2.1;clear hX;go_wp2
     go_ret
     exact ⟨rfl,hfin⟩
 | true =>
   have hv:k0Z id=0:=by simp [k0Z,hi]
   have Hv:=jH hv;clear hv hi
   go_enter Tryz.func42,Tryz.ntmps42
   go_wp2
   go_region_held3 (fun w'=>(∀j,w'.cell? ⟨w.heap.size,j,none⟩=(#[.int .i64 6,.string id,.int .i64 tick,.int .i64 val,.int .i64 handle,.int .i64 a,.int .i64 b,.int .i64 tg,.int .i64 tol,.int .i64 win,.int .i64 hold]:Array Value)[j]?)∧jB w w'∧w.heap.size<w'.heap.size)
     (first|assumption|exact o1Q (i0K w _ _)|exact q0P (by assumption) hb1 rfl|exact q0P (by assumption) hb2 rfl)
     (first
       | (go_at_call 56;refine (e0A _ _ hid).mono ?_;rw [Hv.out];rintro e w1 ⟨rfl,hb1⟩)
       | (go_at_call 103;refine (b0E ⟨a,b,tg,tol,win,hold⟩ _).mono ?_;rintro e w2 ⟨rfl,hb2⟩))
   all_goals
     have hX:=‹(∀j,w2.cell? _=_)∧_›;have hfin:=hX.2.1;clear hX;go_wp2
     go_ret
     exact ⟨rfl,hfin⟩
theorem u0P (hid:id.size≤maxLen) :
 Calls Tryz.prog 42 #[b0A (d0Q 5 id tick val handle a b tg tol win hold)] w (jP w (.int .i64 (if idS id=true then 0 else 2))):=by
 unfold b0A d0Q;simp only
 cases hi:idS id with
 | false =>
   have hv:k0Z id=2:=by simp [k0Z,hi]
   have Hv:=jH hv;clear hv hi
   go_enter Tryz.func42,Tryz.ntmps42
   go_wp2_with (go_at_call 56;refine (e0A _ _ hid).mono ?_;rw [Hv.out];rintro e w1 ⟨rfl,hb1⟩;have hA1:=q0P (i0K w _ _) hb1 rfl)
   go_ret
   exact ⟨rfl,hA1.2.1⟩
 | true =>
   have hv:k0Z id=0:=by simp [k0Z,hi]
   have Hv:=jH hv;clear hv hi
   go_enter Tryz.func42,Tryz.ntmps42
   go_wp2_with (go_at_call 56;refine (e0A _ _ hid).mono ?_;rw [Hv.out];rintro e w1 ⟨rfl,hb1⟩;have hA1:=q0P (i0K w _ _) hb1 rfl)
   go_ret
   exact ⟨rfl,hA1.2.1⟩
theorem v0B (hid:id.size≤maxLen) :
 Calls Tryz.prog 42 #[b0A (d0Q 7 id tick val handle a b tg tol win hold)] w (jP w (.int .i64 (if idS id=true then 0 else 2))):=by
 unfold b0A d0Q;simp only
 cases hi:idS id with
 | false =>
   have hv:k0Z id=2:=by simp [k0Z,hi]
   have Hv:=jH hv;clear hv hi
   go_enter Tryz.func42,Tryz.ntmps42
   go_wp2_with (go_at_call 56;refine (e0A _ _ hid).mono ?_;rw [Hv.out];rintro e w1 ⟨rfl,hb1⟩;have hA1:=q0P (i0K w _ _) hb1 rfl)
   go_ret
   exact ⟨rfl,hA1.2.1⟩
 | true =>
   have hv:k0Z id=0:=by simp [k0Z,hi]
   have Hv:=jH hv;clear hv hi
   go_enter Tryz.func42,Tryz.ntmps42
   go_wp2_with (go_at_call 56;refine (e0A _ _ hid).mono ?_;rw [Hv.out];rintro e w1 ⟨rfl,hb1⟩;have hA1:=q0P (i0K w _ _) hb1 rfl)
   go_ret
   exact ⟨rfl,hA1.2.1⟩
theorem w0B :
 Calls Tryz.prog 42 #[b0A (d0Q 3 id tick val handle a b tg tol win hold)] w (jP w (.int .i64 (0))):=by
 unfold b0A d0Q;simp only
 go_enter Tryz.func42,Tryz.ntmps42
 go_wp2
 go_ret
 exact ⟨rfl,a0C jR _⟩
theorem x0E :
 Calls Tryz.prog 42 #[b0A (d0Q 4 id tick val handle a b tg tol win hold)] w (jP w (.int .i64 (0))):=by
 unfold b0A d0Q;simp only
 go_enter Tryz.func42,Tryz.ntmps42
 go_wp2
 go_ret
 exact ⟨rfl,a0C jR _⟩
theorem w0Q :
 Calls Tryz.prog 42 #[b0A (d0Q 8 id tick val handle a b tg tol win hold)] w (jP w (.int .i64 (0))):=by
 unfold b0A d0Q;simp only
 go_enter Tryz.func42,Tryz.ntmps42
 go_wp2
 go_ret
 exact ⟨rfl,a0C jR _⟩
theorem s0L (k:Int) (hk:k<1∨8<k) :
 Calls Tryz.prog 42 #[b0A (d0Q k id tick val handle a b tg tol win hold)] w (jP w (.int .i64 (14))):=by
 unfold b0A d0Q;simp only
 have q1:(k == 1)=false:=by simp;omega
 have q2:(k == 2)=false:=by simp;omega
 have q3:(k == 3)=false:=by simp;omega
 have q4:(k == 4)=false:=by simp;omega
 have q5:(k == 5)=false:=by simp;omega
 have q6:(k == 6)=false:=by simp;omega
 have q7:(k == 7)=false:=by simp;omega
 have q8:(k == 8)=false:=by simp;omega
 clear hk
 go_enter Tryz.func42,Tryz.ntmps42
 go_wp2
 go_ret
 exact ⟨rfl,a0C jR _⟩
end
theorem f0M (c:c0D) (w:World) (hc:c.ok) :
 Calls Tryz.prog 42 #[b0A c] w (jP w (.int .i64 (e0Y c))):=by
 obtain ⟨kind,id,tick,val,handle,⟨a,b,tg,tol,win,hold⟩⟩:=c;obtain ⟨_,hid,_,_,_,_⟩:=hc;simp only at hid
 rcases k0U ⟨kind,id,tick,val,handle,⟨a,b,tg,tol,win,hold⟩⟩ with h|h|h|h|h|h|h|h|h
 all_goals simp only at h
 · subst h
   have e:e0Y ⟨1,id,tick,val,handle,⟨a,b,tg,tol,win,hold⟩⟩=if idS id=true then g0V tick val else 2:=by
    cases hi:idS id <;> simp [e0Y,hi]
   rw [e];exact w0I id tick val handle a b tg tol win hold w hid
 · subst h
   have e:e0Y ⟨2,id,tick,val,handle,⟨a,b,tg,tol,win,hold⟩⟩=if tick<0 then 3 else 0:=by simp [e0Y]
   rw [e];exact v0S id tick val handle a b tg tol win hold w
 · subst h
   exact w0B id tick val handle a b tg tol win hold w
 · subst h
   exact x0E id tick val handle a b tg tol win hold w
 · subst h
   have e:e0Y ⟨5,id,tick,val,handle,⟨a,b,tg,tol,win,hold⟩⟩=if idS id=true then 0 else 2:=by
    cases hi:idS id <;> simp [e0Y,hi]
   rw [e];exact u0P id tick val handle a b tg tol win hold w hid
 · subst h
   have e:e0Y ⟨6,id,tick,val,handle,⟨a,b,tg,tol,win,hold⟩⟩=if idS id=true then j0N ⟨a,b,tg,tol,win,hold⟩ else 2:=by
    cases hi:idS id <;> cases hp:d0G ⟨a,b,tg,tol,win,hold⟩ <;> simp [e0Y,j0N,hi,hp]
   rw [e];exact u0G id tick val handle a b tg tol win hold w hid
 · subst h
   have e:e0Y ⟨7,id,tick,val,handle,⟨a,b,tg,tol,win,hold⟩⟩=if idS id=true then 0 else 2:=by
    cases hi:idS id <;> simp [e0Y,hi]
   rw [e];exact v0B id tick val handle a b tg tol win hold w hid
 · subst h
   exact w0Q id tick val handle a b tg tol win hold w
 · have e:e0Y ⟨kind,id,tick,val,handle,⟨a,b,tg,tol,win,hold⟩⟩=14:=by simp [e0Y,h]
   rw [e];exact s0L id tick val handle a b tg tol win hold w kind h
end
end
end Go.Proofs.YtmniiodpbebnmaaGreat
