/- Part 6 of the proof. -/
import Derived.Test.YtmniiodpbebnmaaGreatJ01
namespace Go.Proofs.YtmniiodpbebnmaaGreat
set_option linter.unusedSimpArgs false
set_option linter.unusedVariables false
set_option linter.unusedSectionVars false
set_option maxRecDepth 100000
set_option maxHeartbeats 16000000
section
open Go.RowKit Go.Lib
def m0N:Value:=.tuple #[.agg #[.int .u64 0,.int .u64 0],.int .i64 2]
def h0K (s:ByteArray):Value:=if idS s=true then .tuple #[.agg #[.int .u64 (hiN s.data.toList),.int .u64 (loN s.data.toList)],.int .i64 0] else m0N
theorem z0C (s:ByteArray) (w:World) (hm:s.size≤maxLen) (hb:idS s=false) :
 Calls Tryz.prog 81 #[.string s] w fun e w'=>e=.returned m0N∧jB w w':=by
 have hc:f0B s=2:=by simp [f0B,hb]
 have Hc:=jH hc;clear hc hb
 go_enter Tryz.func81,Tryz.ntmps81
 go_wp2_with (go_at_call 56;refine (b0M _ _ hm).mono ?_;rw [Hc.out];rintro e w1 ⟨rfl,hb1⟩;obtain ⟨hc1,hf1⟩:=p1I hb1;have hz1:=hb1.size;simp at hz1)
 exact bodyPost_ret (v:=m0N) (by simp [m0N,results,Tryz.results81,go_sem,hc1,hf1]) rfl ⟨rfl,(((jR.alloc (Nat.le_refl _) _).trans (hb1.mono (by simp))).setCell (by simp) _).setCell (by simp) _⟩
theorem t0G (l:List UInt8) (a m pos:Nat) (hm:m<10) (hpos:pos % 10=m) (c:UInt8) (q:Nat) (hq:a+m=q) (hcq:dig l q=g0D c) :
 bits BinOp.or IntKind.u64 (e0Z l a m:Nat) (IntKind.u64.wrap (k0R (c.toNat:Int) * 2 ^ (6 * (9 - (pos:Int) % 10)).toNat))=(e0Z l a (m+1):Nat):=by
 have hc:dig l (a+m)=g0D c:=by rw [hq];exact hcq
 have h1:=x0X l a m (by omega);have h2:=b1S l a m hm;have h3:=x0X l a (m+1) (by omega);have e:(6 * (9 - (pos:Int) % 10)).toNat=6 * (9 - m):=by omega
 have hle:dig l (a+m) <<< (6 * (9 - m))≤e0Z l a (m+1):=by rw [←h2];exact Nat.right_le_or
 rw [Nat.shiftLeft_eq,hc] at h2 hle;rw [e,k0P];have e2:((g0D c:Nat):Int) * 2 ^ (6 * (9 - m))=((g0D c * 2 ^ (6 * (9 - m)):Nat):Int):=by
  rw [Int.natCast_mul,Int.natCast_pow];rfl
 rw [e2,c0R _ (by omega),u64_or_nat _ _ (by omega) (by omega),h2]
theorem f1R (s:ByteArray) (w:World) (hm:s.size≤maxLen) (hb:idS s=true) :
 Calls Tryz.prog 81 #[.string s] w (jP w (h0K s)):=by
 have hc:f0B s=0:=by simp [f0B,hb]
 have Hc:=jH hc;obtain ⟨hl1,hl2,hok⟩:=j1X s hb;have hv:h0K s=.tuple #[.agg #[.int .u64 (hiN s.data.toList),.int .u64 (loN s.data.toList)],.int .i64 0]:=by simp [h0K,hb]
 have Hv:=jH hv;clear hc hb hv
 go_enter Tryz.func81,Tryz.ntmps81
 go_wp2_with (go_at_call 56;refine (b0M _ _ hm).mono ?_;rw [Hc.out];rintro e w1 ⟨rfl,hb1⟩;obtain ⟨hc1,hf1⟩:=p1I hb1;have hz1:=hb1.size;simp at hz1)
 go_loopw [6,7,8] (fun _ _ _ w'=>∃pos n:Nat,pos≤s.size∧w'=((w1.alloc (.cells #[.int .u64 (e0Z s.data.toList 0 (min pos 10):Nat),.int .u64 (e0Z s.data.toList 10 (pos - 10):Nat)] 74)).alloc (.stringIter s pos)).drewN n) (fun _ _ _ w'=>s.size - w'.iterPos (w1.heap.size+1))
 case atStart=>exact ⟨0,0,Nat.zero_le _,by simp [a1D];rfl⟩
 case round =>
  obtain ⟨pos,n,hp0,rfl⟩:=hrel
  by_cases hp:pos<s.size
  · have hbt:=hok pos hp hp
    have ha:=r0L _ hbt;have hnx:∀ty,(Instr.next (.pointer (some ⟨w1.heap.size+1,0,none⟩)) true ty).run Tryz.prog (((w1.alloc (.cells #[.int .u64 (e0Z s.data.toList 0 (min pos 10):Nat),.int .u64 (e0Z s.data.toList 10 (pos - 10):Nat)] 74)).alloc (.stringIter s pos)).drewN n)=_:=fun ty=>t0C (w1.alloc _) s pos n _ ty (by simp) hp ha
    have hbd:=p0Y (s[pos]).toNat;have hdg:dig s.data.toList pos=g0D s[pos]:=by rw [z0E _ _ (by simpa using hp)];rfl
    by_cases h10:pos<10
    · have hst:=t0G s.data.toList 0 pos pos h10 (by omega) s[pos] pos (by omega) hdg
      have Hst:=jH hst;clear hbt hst hdg;go_wp2
      go_region_with (go_at_call 124;refine (m0C _ _ (by omega) (by omega)).mono ?_;rintro e w' ⟨rfl,rfl⟩)
      all_goals
        go_roundw
        case rel =>
         (repeat apply Exists.intro)
         refine ⟨⟨pos+1,n+1,by omega,?_⟩,rfl⟩;rw [Nat.min_eq_left (Nat.le_of_lt h10),Hst.out,Nat.min_eq_left (show pos+1≤10 by omega),show pos - 10=pos+1 - 10 by omega]
        case measure=>rw [k0D _ _ _ _ _ (by simp),k0D _ _ _ _ _ (by simp)];omega
    · have hst:=t0G s.data.toList 10 (pos - 10) pos (by omega) (by omega) s[pos] pos (by omega) hdg
      have Hst:=jH hst;clear hbt hst hdg;go_wp2
      go_region_with (go_at_call 124;refine (m0C _ _ (by omega) (by omega)).mono ?_;rintro e w' ⟨rfl,rfl⟩)
      all_goals
        go_roundw
        case rel =>
         (repeat apply Exists.intro)
         refine ⟨⟨pos+1,n+1,by omega,?_⟩,rfl⟩;rw [Hst.out,show min pos 10=min (pos+1) 10 by omega,show pos - 10+1=pos+1 - 10 by omega]
        case measure=>rw [k0D _ _ _ _ _ (by simp),k0D _ _ _ _ _ (by simp)];omega
  · have hnx:∀ty,(Instr.next (.pointer (some ⟨w1.heap.size+1,0,none⟩)) true ty).run Tryz.prog (((w1.alloc (.cells #[.int .u64 (e0Z s.data.toList 0 (min pos 10):Nat),.int .u64 (e0Z s.data.toList 10 (pos - 10):Nat)] 74)).alloc (.stringIter s pos)).drewN n)=_:=fun ty=>a1N (w1.alloc _) s pos n _ ty (by simp) hp
    have hv1:e0Z s.data.toList 0 (min pos 10)=hiN s.data.toList:=by
     rcases Nat.lt_or_ge pos 10 with h|h
     · exact t0R _ _ _ (by omega) (by simp;omega)
     · rw [Nat.min_eq_right h,e1Y];rfl
    have hv2:e0Z s.data.toList 10 (pos - 10)=loN s.data.toList:=t0R _ _ _ (by omega) (by simp;omega);rw [←hv1,←hv2] at Hv;clear hv1 hv2;have q1:w.heap.size<w1.heap.size:=by omega
    have q2:w.heap.size<w1.heap.size+1:=by omega
    have q3:w.heap.size≠w1.heap.size:=by omega
    have q4:w.heap.size≠w1.heap.size+1:=by omega
    have q5:w1.cell? ⟨w.heap.size,0,none⟩=some (.int .u64 0):=by rw [hc1 _ _ (by simp)];simp [go_sem]
    have q6:w1.cell? ⟨w.heap.size,1,none⟩=some (.int .u64 0):=by rw [hc1 _ _ (by simp)];simp [go_sem]
    have q7:w1.frozen? ⟨w.heap.size,0,none⟩=false:=by rw [hf1 _ _ (by simp)];simp [go_sem]
    have q8:w1.frozen? ⟨w.heap.size,1,none⟩=false:=by rw [hf1 _ _ (by simp)];simp [go_sem]
    go_wp2
    exact bodyPost_ret (v:=h0K s) (by rw [Hv.out];simp [results,Tryz.results81,go_sem,q1,q5,q6,q7,q8]) rfl
      ⟨rfl,a0G (((((jR.alloc (Nat.le_refl _) _).trans (hb1.mono (by simp))).setCell (by simp) _).setCell (by simp) _).alloc (by simp [World.setCell];omega) _ |>.alloc (by simp [World.setCell];omega) _) n⟩
theorem j0O (s:ByteArray) (w:World) (hm:s.size≤maxLen) :
 Calls Tryz.prog 81 #[.string s] w (jP w (h0K s)):=by
 cases hb:idS s with
 | true=>exact f1R s w hm hb
 | false =>
   have:h0K s=m0N:=by simp [h0K,hb]
   rw [this];exact z0C s w hm hb
def h0B (a b c d:Nat):Int:=if a=c∧b=d then 0 else if a<c∨a=c∧b<d then -1 else 1


section
theorem b0P (n:Int) (w:World) (hn:I64 n) :
 Calls Tryz.prog 110 #[.int .i64 n] w fun e w'=>e=.returned (.bool (e0R n))∧w=w':=by
 obtain ⟨hn1,hn2⟩:=hn
 by_cases h1:1≤n
 · by_cases h2:n≤64
   · obtain ⟨k,rfl⟩:=Int.eq_ofNat_of_zero_le (show 0≤n by omega)
     have hq:=st_and k (by omega) (by omega);generalize e0R (k:Int)=b at hq
     go_enter Tryz.func110,Tryz.ntmps110
     go_wp2
     go_ret
     exact ⟨rfl,rfl⟩
   · have hb:e0R n=false:=by
      cases hb:e0R n with
      | false=>rfl
      | true=>exact absurd (d0L n hb).2 h2
     rw [hb]
     go_enter Tryz.func110,Tryz.ntmps110
     go_wp2
     go_ret
     exact ⟨rfl,rfl⟩
 · have hb:e0R n=false:=by
    cases hb:e0R n with
    | false=>rfl
    | true=>exact absurd (d0L n hb).1 h1
   rw [hb]
   go_enter Tryz.func110,Tryz.ntmps110
   go_wp2
   go_ret
   exact ⟨rfl,rfl⟩
theorem f0A (c:Cfg) (w:World) (hc:c.ok) :
 Calls Tryz.prog 46 #[n0D c] w (jP w (.int .i64 (d1J c))):=by
 obtain ⟨st,sa,lo,hi⟩:=c;obtain ⟨h1,h2,h3,h4⟩:=hc;have H1:=jH h1;simp only [I64] at h1 h2 h3 h4
 unfold n0D
 cases hb:e0R st with
 | false =>
   have hf:d1J ⟨st,sa,lo,hi⟩=1:=by simp [d1J,h0A,hb]
   rw [hf];have Hb:=jH hb;clear hb hf
   go_enter Tryz.func46,Tryz.ntmps46
   go_wp2_with (go_at_call 110;refine (b0P _ _ H1.out).mono ?_;rw [Hb.out];rintro e w' ⟨rfl,rfl⟩)
   all_goals
     go_ret
     exact ⟨rfl,jR.alloc (Nat.le_refl _) _⟩
 | true =>
   have Hb:=jH hb;clear hb
   go_enter Tryz.func46,Tryz.ntmps46
   go_wp2_with (go_at_call 110;refine (b0P _ _ H1.out).mono ?_;rw [Hb.out];rintro e w' ⟨rfl,rfl⟩)
   all_goals
     go_ret
     refine ⟨e0U ?_,jR.alloc (Nat.le_refl _) _⟩;simp only [d1J,h0A,Hb.out,Bool.true_and,decide_eq_true_eq]
     split <;> omega
theorem b0A (t v:Int) (w:World) :
 Calls Tryz.prog 102 #[.int .i64 t,.int .i64 v] w fun e w'=>e=.returned (.int .i64 (g0C t v))∧w=w':=by
 go_enter Tryz.func102,Tryz.ntmps102
 go_wp2
 all_goals
   go_ret
   refine ⟨e0U ?_,rfl⟩;unfold g0C
   repeat' split
   all_goals omega
theorem a0W (p:Pol) (w:World) :
 Calls Tryz.prog 103 #[d0E p] w (jP w (.int .i64 (i0F p))):=by
 obtain ⟨a,b,c,d,f,g⟩:=p;unfold d0E
 go_enter Tryz.func103,Tryz.ntmps103
 go_wp2
 all_goals
   go_ret
   refine ⟨e0U ?_,jR.alloc (Nat.le_refl _) _⟩;simp only [i0F,g0Z,decide_eq_true_eq]
   split <;> omega
theorem r0F (n:Int) (w:World) :
 Calls Tryz.prog 47 #[.int .i64 n] w fun e w'=>e=.returned (.int .i64 (l0W n))∧w=w':=by
 go_enter Tryz.func47,Tryz.ntmps47
 go_wp2
 go_loop [3,4] (fun p b=>∃k:Nat,k≤7∧b=.int .i64 k∧p=.int .i64 ((2 ^ k:Nat):Int)∧∀j,j<k→n≠((2 ^ j:Nat):Int)) (fun _ b=>7 - (intOf b).toNat)
 case atStart=>exact ⟨0,by omega,rfl,rfl,fun j hj=>absurd hj (by omega)⟩
 case round =>
  obtain ⟨k,hk,rfl,rfl,hno⟩:=hrel
  by_cases hlt:k<7
  · have hp:2 ^ k≤2 ^ 6:=Nat.pow_le_pow_right (by decide) (by omega)
    by_cases he:n=((2 ^ k:Nat):Int)
    · have hv:=u0B k hlt
      rw [←he] at hv;have hq:(n == ((2 ^ k:Nat):Int))=true:=by simp [he]
      have Hv:=jH hv;clear hv he hno;generalize 2 ^ k=m at *;go_wp2
      go_ret
      exact ⟨e0U Hv.out.symm,rfl⟩
    · have hq:(n == ((2 ^ k:Nat):Int))=false:=by simpa using he
      have hno':∀j,j<k+1→n≠((2 ^ j:Nat):Int):=by
       intro j hj
       rcases Nat.lt_or_ge j k with h|h
       · exact hno j h
       · obtain rfl:j=k:=by omega
         exact he
      have Hno:=jH hno';have hm:2 ^ (k+1)=2 ^ k * 2:=Nat.pow_succ 2 k;clear he hno hno';generalize hx:2 ^ k=m at *;have Hm:=jH hm;have Hx:=jH hx;clear hm hx;go_wp2
      go_round
      case rel=>exact ⟨k+1,by omega,by go_num,by rw [Hm.out];simp,Hno.out⟩
      case measure=>simp [intOf];omega
  · obtain rfl:k=7:=by omega
    have hv:=z0R n hno;have Hv:=jH hv;clear hv hno hlt hk;go_wp2
    go_ret
    exact ⟨e0U Hv.out.symm,rfl⟩
theorem g0A (c:Cfg) (w:World) :
 Calls Tryz.prog 13 #[n0D c] w (jP w (.bool (h0A c))):=by
 obtain ⟨st,sa,lo,hi⟩:=c;unfold n0D;have hb:=j1Q st;have Hb:=jH hb;clear hb
 go_enter Tryz.func13,Tryz.ntmps13
 go_wp2_with (go_at_call 47;refine (r0F _ _).mono ?_;generalize l0W st=b at *;rintro e w' ⟨rfl,rfl⟩)
 all_goals
   go_ret
   refine ⟨x0T ?_,jR.alloc (Nat.le_refl _) _⟩;have hb:=Hb.out;simp only [h0A]
   rw [←hb,Bool.eq_iff_iff];simp only [Bool.and_eq_true,decide_eq_true_eq,Bool.false_eq_true,false_iff]
   omega
theorem t0E (c:b0Z):c.kind=1∨c.kind=2∨c.kind=3∨c.kind=4∨c.kind=5∨c.kind=6∨c.kind=7∨c.kind=8∨(c.kind<1∨8<c.kind):=by omega
def h0D (k:Int) (id:ByteArray) (tick val handle a b tg tol win hold:Int):b0Z:=⟨k,id,tick,val,handle,⟨a,b,tg,tol,win,hold⟩⟩
section
variable (id:ByteArray) (tick val handle a b tg tol win hold:Int) (w:World)
theorem s0D (hid:id.size≤maxLen) :
 Calls Tryz.prog 42 #[a0S (h0D 1 id tick val handle a b tg tol win hold)] w (jP w (.int .i64 (if idS id=true then g0C tick val else 2))):=by
 unfold a0S h0D;simp only
 cases hi:idS id with
 | false =>
   have hv:f0B id=2:=by simp [f0B,hi]
   have Hv:=jH hv;clear hv hi
   go_enter Tryz.func42,Tryz.ntmps42
   go_wp2
   go_region_held3 (fun w'=>(∀j,w'.cell? ⟨w.heap.size,j,none⟩=(#[.int .i64 1,.string id,.int .i64 tick,.int .i64 val,.int .i64 handle,.int .i64 a,.int .i64 b,.int .i64 tg,.int .i64 tol,.int .i64 win,.int .i64 hold]:Array Value)[j]?)∧jB w w'∧w.heap.size<w'.heap.size)
     (first|assumption|exact m1V (i0O w _ _)|exact o0P (by assumption) hb1 rfl)
     (first
       | (go_at_call 56;refine (b0M _ _ hid).mono ?_;rw [Hv.out];rintro e w1 ⟨rfl,hb1⟩)
       | (go_at_call 102;refine (b0A _ _ _).mono ?_;rintro e w' ⟨rfl,rfl⟩))
   all_goals
     have hX:=‹(∀j,w1.cell? _=_)∧_›;have hfin:=hX.2.1;clear hX;go_wp2
     go_ret
     exact ⟨rfl,hfin⟩
 | true =>
   have hv:f0B id=0:=by simp [f0B,hi]
   have Hv:=jH hv;clear hv hi
   go_enter Tryz.func42,Tryz.ntmps42
   go_wp2
   go_region_held3 (fun w'=>(∀j,w'.cell? ⟨w.heap.size,j,none⟩=(#[.int .i64 1,.string id,.int .i64 tick,.int .i64 val,.int .i64 handle,.int .i64 a,.int .i64 b,.int .i64 tg,.int .i64 tol,.int .i64 win,.int .i64 hold]:Array Value)[j]?)∧jB w w'∧w.heap.size<w'.heap.size)
     (first|assumption|exact m1V (i0O w _ _)|exact o0P (by assumption) hb1 rfl)
     (first
       | (go_at_call 56;refine (b0M _ _ hid).mono ?_;rw [Hv.out];rintro e w1 ⟨rfl,hb1⟩)
       | (go_at_call 102;refine (b0A _ _ _).mono ?_;rintro e w' ⟨rfl,rfl⟩))
   all_goals
     have hX:=‹(∀j,w1.cell? _=_)∧_›;have hfin:=hX.2.1;clear hX;go_wp2
     go_ret
     exact ⟨rfl,hfin⟩
theorem t0J :
 Calls Tryz.prog 42 #[a0S (h0D 2 id tick val handle a b tg tol win hold)] w (jP w (.int .i64 (if tick<0 then 3 else 0))):=by
 unfold a0S h0D;simp only
 by_cases ht:tick<0
 · have hv:g0C tick 0=3:=by simp [g0C,ht]
   have Hv:=jH hv;clear hv;rw [if_pos ht];clear ht
   go_enter Tryz.func42,Tryz.ntmps42
   go_wp2_with (go_at_call 102;refine (b0A _ _ _).mono ?_;rw [Hv.out];rintro e w' ⟨rfl,rfl⟩)
   go_ret
   exact ⟨rfl,a0C jR _⟩
 · have hv:g0C tick 0=0:=by simp [g0C,ht]
   have Hv:=jH hv;clear hv;rw [if_neg ht];clear ht
   go_enter Tryz.func42,Tryz.ntmps42
   go_wp2_with (go_at_call 102;refine (b0A _ _ _).mono ?_;rw [Hv.out];rintro e w' ⟨rfl,rfl⟩)
   go_ret
   exact ⟨rfl,a0C jR _⟩
theorem s0O (hid:id.size≤maxLen) :
 Calls Tryz.prog 42 #[a0S (h0D 6 id tick val handle a b tg tol win hold)] w (jP w (.int .i64 (if idS id=true then i0F ⟨a,b,tg,tol,win,hold⟩ else 2))):=by
 unfold a0S h0D;simp only
 cases hi:idS id with
 | false =>
   have hv:f0B id=2:=by simp [f0B,hi]
   have Hv:=jH hv;clear hv hi
   go_enter Tryz.func42,Tryz.ntmps42
   go_wp2
   go_region_held3 (fun w'=>(∀j,w'.cell? ⟨w.heap.size,j,none⟩=(#[.int .i64 6,.string id,.int .i64 tick,.int .i64 val,.int .i64 handle,.int .i64 a,.int .i64 b,.int .i64 tg,.int .i64 tol,.int .i64 win,.int .i64 hold]:Array Value)[j]?)∧jB w w'∧w.heap.size<w'.heap.size)
     (first|assumption|exact m1V (i0O w _ _)|exact o0P (by assumption) hb1 rfl|exact o0P (by assumption) hb2 rfl)
     (first
       | (go_at_call 56;refine (b0M _ _ hid).mono ?_;rw [Hv.out];rintro e w1 ⟨rfl,hb1⟩)
       | (go_at_call 103;refine (a0W ⟨a,b,tg,tol,win,hold⟩ _).mono ?_;rintro e w2 ⟨rfl,hb2⟩))
   all_goals
     have hX:=‹(∀j,w2.cell? _=_)∧_›;have hfin:=hX.2.1;clear hX;go_wp2
     go_ret
     exact ⟨rfl,hfin⟩
 | true =>
   have hv:f0B id=0:=by simp [f0B,hi]
   have Hv:=jH hv;clear hv hi
   go_enter Tryz.func42,Tryz.ntmps42
   go_wp2
   go_region_held3 (fun w'=>(∀j,w'.cell? ⟨w.heap.size,j,none⟩=(#[.int .i64 6,.string id,.int .i64 tick,.int .i64 val,.int .i64 handle,.int .i64 a,.int .i64 b,.int .i64 tg,.int .i64 tol,.int .i64 win,.int .i64 hold]:Array Value)[j]?)∧jB w w'∧w.heap.size<w'.heap.size)
     (first|assumption|exact m1V (i0O w _ _)|exact o0P (by assumption) hb1 rfl|exact o0P (by assumption) hb2 rfl)
     (first
       | (go_at_call 56;refine (b0M _ _ hid).mono ?_;rw [Hv.out];rintro e w1 ⟨rfl,hb1⟩)
       | (go_at_call 103;refine (a0W ⟨a,b,tg,tol,win,hold⟩ _).mono ?_;rintro e w2 ⟨rfl,hb2⟩))
   all_goals
     have hX:=‹(∀j,w2.cell? _=_)∧_›;have hfin:=hX.2.1;clear hX;go_wp2
     go_ret
     exact ⟨rfl,hfin⟩
theorem r0U (hid:id.size≤maxLen) :
 Calls Tryz.prog 42 #[a0S (h0D 5 id tick val handle a b tg tol win hold)] w (jP w (.int .i64 (if idS id=true then 0 else 2))):=by
 unfold a0S h0D;simp only
 cases hi:idS id with
 | false =>
   have hv:f0B id=2:=by simp [f0B,hi]
   have Hv:=jH hv;clear hv hi
   go_enter Tryz.func42,Tryz.ntmps42
   go_wp2_with (go_at_call 56;refine (b0M _ _ hid).mono ?_;rw [Hv.out];rintro e w1 ⟨rfl,hb1⟩;have hA1:=o0P (i0O w _ _) hb1 rfl)
   go_ret
   exact ⟨rfl,hA1.2.1⟩
 | true =>
   have hv:f0B id=0:=by simp [f0B,hi]
   have Hv:=jH hv;clear hv hi
   go_enter Tryz.func42,Tryz.ntmps42
   go_wp2_with (go_at_call 56;refine (b0M _ _ hid).mono ?_;rw [Hv.out];rintro e w1 ⟨rfl,hb1⟩;have hA1:=o0P (i0O w _ _) hb1 rfl)
   go_ret
   exact ⟨rfl,hA1.2.1⟩
theorem t0A (hid:id.size≤maxLen) :
 Calls Tryz.prog 42 #[a0S (h0D 7 id tick val handle a b tg tol win hold)] w (jP w (.int .i64 (if idS id=true then 0 else 2))):=by
 unfold a0S h0D;simp only
 cases hi:idS id with
 | false =>
   have hv:f0B id=2:=by simp [f0B,hi]
   have Hv:=jH hv;clear hv hi
   go_enter Tryz.func42,Tryz.ntmps42
   go_wp2_with (go_at_call 56;refine (b0M _ _ hid).mono ?_;rw [Hv.out];rintro e w1 ⟨rfl,hb1⟩;have hA1:=o0P (i0O w _ _) hb1 rfl)
   go_ret
   exact ⟨rfl,hA1.2.1⟩
 | true =>
   have hv:f0B id=0:=by simp [f0B,hi]
   have Hv:=jH hv;clear hv hi
   go_enter Tryz.func42,Tryz.ntmps42
   go_wp2_with (go_at_call 56;refine (b0M _ _ hid).mono ?_;rw [Hv.out];rintro e w1 ⟨rfl,hb1⟩;have hA1:=o0P (i0O w _ _) hb1 rfl)
   go_ret
   exact ⟨rfl,hA1.2.1⟩
theorem t0H :
 Calls Tryz.prog 42 #[a0S (h0D 3 id tick val handle a b tg tol win hold)] w (jP w (.int .i64 (0))):=by
 unfold a0S h0D;simp only
 go_enter Tryz.func42,Tryz.ntmps42
 go_wp2
 go_ret
 exact ⟨rfl,a0C jR _⟩
theorem r0Y :
 Calls Tryz.prog 42 #[a0S (h0D 4 id tick val handle a b tg tol win hold)] w (jP w (.int .i64 (0))):=by
 unfold a0S h0D;simp only
 go_enter Tryz.func42,Tryz.ntmps42
 go_wp2
 go_ret
 exact ⟨rfl,a0C jR _⟩
theorem s0T :
 Calls Tryz.prog 42 #[a0S (h0D 8 id tick val handle a b tg tol win hold)] w (jP w (.int .i64 (0))):=by
 unfold a0S h0D;simp only
 go_enter Tryz.func42,Tryz.ntmps42
 go_wp2
 go_ret
 exact ⟨rfl,a0C jR _⟩
theorem q0I (k:Int) (hk:k<1∨8<k) :
 Calls Tryz.prog 42 #[a0S (h0D k id tick val handle a b tg tol win hold)] w (jP w (.int .i64 (14))):=by
 unfold a0S h0D;simp only
 have q1:(k == 1)=false:=by simp;omega
 have q2:(k == 2)=false:=by simp;omega
 have q3:(k == 3)=false:=by simp;omega
 have q4:(k == 4)=false:=by simp;omega
 have q5:(k == 5)=false:=by simp;omega
 have q6:(k == 6)=false:=by simp;omega
 have q7:(k == 7)=false:=by simp;omega
 have q8:(k == 8)=false:=by simp;omega
 clear hk
 go_enter Tryz.func42,Tryz.ntmps42
 go_wp2
 go_ret
 exact ⟨rfl,a0C jR _⟩
end
theorem i0Q (c:b0Z) (w:World) (hc:c.ok) :
 Calls Tryz.prog 42 #[a0S c] w (jP w (.int .i64 (f0V c))):=by
 obtain ⟨kind,id,tick,val,handle,⟨a,b,tg,tol,win,hold⟩⟩:=c;obtain ⟨_,hid,_,_,_,_⟩:=hc;simp only at hid
 rcases t0E ⟨kind,id,tick,val,handle,⟨a,b,tg,tol,win,hold⟩⟩ with h|h|h|h|h|h|h|h|h
 all_goals simp only at h
 · subst h
   have e:f0V ⟨1,id,tick,val,handle,⟨a,b,tg,tol,win,hold⟩⟩=if idS id=true then g0C tick val else 2:=by
    cases hi:idS id <;> simp [f0V,hi]
   rw [e];exact s0D id tick val handle a b tg tol win hold w hid
 · subst h
   have e:f0V ⟨2,id,tick,val,handle,⟨a,b,tg,tol,win,hold⟩⟩=if tick<0 then 3 else 0:=by simp [f0V]
   rw [e];exact t0J id tick val handle a b tg tol win hold w
 · subst h
   exact t0H id tick val handle a b tg tol win hold w
 · subst h
   exact r0Y id tick val handle a b tg tol win hold w
 · subst h
   have e:f0V ⟨5,id,tick,val,handle,⟨a,b,tg,tol,win,hold⟩⟩=if idS id=true then 0 else 2:=by
    cases hi:idS id <;> simp [f0V,hi]
   rw [e];exact r0U id tick val handle a b tg tol win hold w hid
 · subst h
   have e:f0V ⟨6,id,tick,val,handle,⟨a,b,tg,tol,win,hold⟩⟩=if idS id=true then i0F ⟨a,b,tg,tol,win,hold⟩ else 2:=by
    cases hi:idS id <;> cases hp:g0Z ⟨a,b,tg,tol,win,hold⟩ <;> simp [f0V,i0F,hi,hp]
   rw [e];exact s0O id tick val handle a b tg tol win hold w hid
 · subst h
   have e:f0V ⟨7,id,tick,val,handle,⟨a,b,tg,tol,win,hold⟩⟩=if idS id=true then 0 else 2:=by
    cases hi:idS id <;> simp [f0V,hi]
   rw [e];exact t0A id tick val handle a b tg tol win hold w hid
 · subst h
   exact s0T id tick val handle a b tg tol win hold w
 · have e:f0V ⟨kind,id,tick,val,handle,⟨a,b,tg,tol,win,hold⟩⟩=14:=by simp [f0V,h]
   rw [e];exact q0I id tick val handle a b tg tol win hold w kind h
end
end
end Go.Proofs.YtmniiodpbebnmaaGreat
