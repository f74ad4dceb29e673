/- Part 12 of the proof. -/
import Derived.Test.YtmniiodpbebnmaaGreatJ11
import Derived.RangeFuncNested
import Derived.RangeFuncBound
import Derived.RangeFuncCalls
import Derived.RangeFuncLeaves
import Derived.Shelf.Abstract
import Derived.Shelf.RegionOpen
import Derived.OwnWalkIn
import Derived.TacticsInMore
import Derived.LoopNIn
import Derived.LoopIn
import Derived.Maps.AppendAt
namespace Go.Proofs.YtmniiodpbebnmaaGreat
set_option linter.unusedSimpArgs false
set_option linter.unusedVariables false
set_option linter.unusedSectionVars false
set_option maxRecDepth 100000
set_option maxHeartbeats 16000000
section
open Go.RowKit Go.Lib
structure r0H (rs rh n:Nat) (p:Itm):Prop where
 nd:NdOk rs rh p.2
 ver:p.2.ver≤n
 key:p.1.ok
 smp:u0E p.2.smp
 val:∀s∈p.2.smp,0≤s.1∧0≤s.2
 pol:p.2.pol.ok
theorem r0H.mono {rs rh n m:Nat} {p:Itm} (h:r0H rs rh n p) (hm:n≤m):r0H rs rh m p:=⟨h.nd,Nat.le_trans h.ver hm,h.key,h.smp,h.val,h.pol⟩
theorem q0B:g0P.ok:=by unfold Pol.ok I64 g0P;dsimp only;omega
theorem n1U (rs rh n:Nat) (k:Ky) (hk:k.ok):r0H rs rh n (k,nd0) :=
 ⟨⟨List.Pairwise.nil,Nat.zero_le _,Nat.zero_le _⟩,Nat.zero_le _,hk,(fun s hs=>by cases hs),(fun s hs=>by cases hs),q0B⟩
theorem q1G {rs rh n:Nat} {l:List Itm} (h:∀p∈l,r0H rs rh n p) (k:Ky) (hk:k.ok):r0H rs rh n (k,x0R l k):=by
 unfold x0R
 split
 · exact n1U rs rh n k hk
 · rename_i x hx
   split
   · have hm:=List.mem_of_getElem? hx
     exact ⟨(h x hm).nd,(h x hm).ver,hk,(h x hm).smp,(h x hm).val,(h x hm).pol⟩
   · exact n1U rs rh n k hk
theorem y0V {l:List Smp} {room:Int} {x s:Smp} (h:s∈l0X l room x):s∈l∨s=x:=by
 unfold l0X at h
 split at h
 · rcases List.mem_or_eq_of_mem_set h with h|h
   · exact .inl h
   · exact .inr h
 · have h2:s∈h1X l x:=by
    unfold e1L at h
    split at h
    · exact List.mem_of_mem_drop h
    · exact h
   unfold h1X at h2;simp only [List.mem_append,List.mem_cons,List.mem_singleton,List.not_mem_nil,or_false] at h2
   rcases h2 with h2|h2|h2
   · exact .inl (List.mem_of_mem_take h2)
   · exact .inr h2
   · exact .inl (List.mem_of_mem_drop h2)
structure q1A (a:d0U):Prop where
 smp:I64 a.smp.1∧I64 a.smp.2
 pol:a.pol.ok
theorem q1E {rs rh n:Nat} {k:Ky} {x:Nd} {a:d0U} (h:r0H rs rh n (k,x)) (ha:q1A a) (h1:1≤rh):r0H rs rh (n+1) (k,(l0S rs rh x a).1):=by
 have hver:=h.ver;have hnd:=h.nd;dsimp only at hver hnd;unfold l0S
 split
 · split
   · rename_i _ hs
     refine ⟨⟨k0M hnd.ris _ _,m0G hnd.len _,hnd.past⟩,Nat.succ_le_succ hver,h.key,fun s hs'=>?_,fun s hs'=>?_,h.pol⟩
     · rcases y0V hs' with h9|h9
       · exact h.smp s h9
       · rw [h9];exact ha.smp
     · rcases y0V hs' with h9|h9
       · exact h.val s h9
       · rw [h9]
         unfold g0C at hs
         split at hs
         · cases hs
         · split at hs
           · cases hs
           · exact ⟨by omega,by omega⟩
   · exact h.mono (Nat.le_succ n)
 · split
   · split
     · exact h.mono (Nat.le_succ n)
     · exact ⟨⟨e0F hnd.ris _,Nat.le_trans (by simp) hnd.len,hnd.past⟩,Nat.succ_le_succ hver,h.key,fun s hs=>h.smp s (List.mem_of_mem_drop hs),fun s hs=>h.val s (List.mem_of_mem_drop hs),h.pol⟩
   · split
     · split
       · exact ⟨⟨hnd.ris,hnd.len,hnd.past⟩,Nat.succ_le_succ hver,h.key,h.smp,h.val,ha.pol⟩
       · exact h.mono (Nat.le_succ n)
     · split
       · refine ⟨⟨hnd.ris,hnd.len,?_⟩,Nat.succ_le_succ hver,h.key,h.smp,h.val,h.pol⟩
         show (g0B x.past rh a.adv).length≤rh
         unfold g0B;have:=hnd.past
         split
         · simp;omega
         · simp;omega
       · exact h.mono (Nat.le_succ n)
theorem p0Z {l:List Itm} {k:Ky} {y:Nd} {p:Itm} (h:p∈o0L l k y):p∈l∨p=(k,y):=by
 unfold o0L at h
 rcases List.mem_append.1 h with h|h
 · rcases List.mem_append.1 h with h|h
   · exact .inl (List.mem_of_mem_take h)
   · exact .inr (List.mem_singleton.1 h)
 · exact .inl (List.mem_of_mem_drop h)
theorem q1F {c:Cfg} {rs rh n:Nat} {l:List Itm} {k:Ky} {a:d0U} (h:∀p∈l,r0H rs rh n p) (hk:k.ok) (ha:q1A a) (h1:1≤rh):∀p∈(i0N c rs rh l k a).1,r0H rs rh (n+1) p:=by
 intro p hp;unfold i0N at hp;dsimp only at hp
 split at hp
 · exact (h p hp).mono (Nat.le_succ n)
 · split at hp
   · exact (h p hp).mono (Nat.le_succ n)
   · split at hp
     · exact (h p hp).mono (Nat.le_succ n)
     · rcases p0Z hp with h9|h9
       · exact (h p h9).mono (Nat.le_succ n)
       · rw [h9];exact q1E (q1G h k hk) ha h1
theorem m1W {c:Cfg} {rs rh:Nat} {l:List Itm} {k:Ky} {a:d0U} (hc:c.lo≤256) (h:l.length≤256):(i0N c rs rh l k a).1.length≤256:=by
 unfold i0N;dsimp only
 split
 · exact h
 · split
   · exact h
   · split
     · exact h
     · rename_i _ _ h3
       unfold o0L;have hat:atP l k≤l.length:=by
        unfold atP;exact (List.takeWhile_sublist _).length_le
       cases hh:u0F l k
       · rw [hh] at h3
         have:¬c.lo≤(l.length:Nat):=fun h9=>h3 ⟨rfl,h9⟩
         simp
         omega
       · have hlt:atP l k<l.length:=by
          unfold u0F at hh
          cases h9:l[atP l k]? with
          | none=>rw [h9] at hh;cases hh
          | some z=>exact (List.getElem?_eq_some_iff.1 h9).1
         simp
         omega
structure h0C (c:Cfg) (rs rh n:Nat) (w:Wd):Prop where
 len:(w.st.length:Int)=c.st
 room:∀l∈w.st,l.length≤256
 it:∀l∈w.st,∀p∈l,r0H rs rh n p
 cuts:w.cuts.length≤n
 cit:∀q∈w.cuts,q.items.length≤20000∧∀p∈q.items,r0H rs rh n p
 cep:∀q∈w.cuts,0≤q.ep∧q.ep≤n
 ep:0≤w.ep∧w.ep≤n
theorem h0C.mono {c:Cfg} {rs rh n m:Nat} {w:Wd} (h:h0C c rs rh n w) (hm:n≤m):h0C c rs rh m w :=
 ⟨h.len,h.room,fun l hl p hp=>(h.it l hl p hp).mono hm,Nat.le_trans h.cuts hm,fun q hq=>⟨(h.cit q hq).1,fun p hp=>((h.cit q hq).2 p hp).mono hm⟩,fun q hq=>⟨(h.cep q hq).1,by have:=(h.cep q hq).2;omega⟩,⟨h.ep.1,by have:=h.ep.2;omega⟩⟩
theorem d1W (c:Cfg) (rs rh:Nat) (k:Nat) (hk:(k:Int)=c.st):h0C c rs rh 0 (o0J k) :=
 ⟨by simpa [o0J] using hk,(fun l hl=>by rw [List.eq_of_mem_replicate hl];exact Nat.zero_le _),(fun l hl p hp=>by rw [List.eq_of_mem_replicate hl] at hp;cases hp),Nat.le_refl _,(fun q hq=>by cases hq),(fun q hq=>by cases hq),⟨Int.le_refl _,Int.le_refl _⟩⟩
theorem n0E {c:Cfg} {rs rh n:Nat} {w:Wd} {id:ByteArray} {a:d0U} (h:h0C c rs rh n w) (hc:c.lo≤256) (ha:q1A a) (h1:1≤rh):h0C c rs rh (n+1) (h0E c rs rh w id a).1:=by
 have hl:∀p∈w.st.getD (atW c id) [],r0H rs rh n p:=by
  intro p hp
  by_cases hlt:atW c id<w.st.length
  · rw [List.getD_eq_getElem?_getD,List.getElem?_eq_getElem hlt] at hp
    exact h.it _ (List.getElem_mem hlt) p hp
  · rw [List.getD_eq_getElem?_getD,List.getElem?_eq_none (by omega)] at hp
    cases hp
 have hl2:(w.st.getD (atW c id) []).length≤256:=by
  by_cases hlt:atW c id<w.st.length
  · rw [List.getD_eq_getElem?_getD,List.getElem?_eq_getElem hlt]
    exact h.room _ (List.getElem_mem hlt)
  · rw [List.getD_eq_getElem?_getD,List.getElem?_eq_none (by omega)]
    exact Nat.zero_le _
 have hm:=h.mono (Nat.le_succ n);refine ⟨by show (((w.st.set _ _).length:Nat):Int)=c.st;simpa using h.len,fun l hlm=>?_,fun l hlm=>?_,hm.cuts,hm.cit,hm.cep,hm.ep⟩
 · rcases List.mem_or_eq_of_mem_set hlm with h9|h9
   · exact h.room l h9
   · rw [h9];exact m1W hc hl2
 · rcases List.mem_or_eq_of_mem_set hlm with h9|h9
   · exact hm.it l h9
   · rw [h9];exact q1F hl (d0K id) ha h1
theorem j1Z {rs rh n:Nat} {p:Itm} (h:r0H rs rh n p) (cut:Int):r0H rs rh (n+1) (p.1,f0T cut p.2):=by
 have hver:=h.ver;unfold f0T
 split
 · exact (show r0H rs rh n (p.1,p.2) from h).mono (Nat.le_succ n)
 · exact ⟨⟨e0F h.nd.ris _,Nat.le_trans (by simp) h.nd.len,h.nd.past⟩,Nat.succ_le_succ hver,h.key,fun s hs=>h.smp s (List.mem_of_mem_drop hs),fun s hs=>h.val s (List.mem_of_mem_drop hs),h.pol⟩
theorem x0P {c:Cfg} {rs rh n:Nat} {w:Wd} {cut:Int} (h:h0C c rs rh n w):h0C c rs rh (n+1) (i0E w cut):=by
 have hm:=h.mono (Nat.le_succ n);refine ⟨by show (((w.st.map _).length:Nat):Int)=c.st;simpa using h.len,fun l hlm=>?_,fun l hlm p hp=>?_,hm.cuts,hm.cit,hm.cep,hm.ep⟩
 · obtain ⟨l2,h2,rfl⟩:=List.mem_map.1 hlm
   simpa using h.room l2 h2
 · obtain ⟨l2,h2,rfl⟩:=List.mem_map.1 hlm
   obtain ⟨q,hq,rfl⟩:=List.mem_map.1 hp;exact j1Z (h.it l2 h2 q hq) cut
theorem y0E:∀(l:List (List Itm)),(∀x∈l,x.length≤256)→l.flatten.length≤256 * l.length
  | [],_=>Nat.le_refl _
  | a::l,h=>by
    have h1:=h a (List.mem_cons_self ..);have h2:=y0E l (fun x hx=>h x (List.mem_cons_of_mem _ hx));simp only [List.flatten_cons,List.length_append,List.length_cons]
    omega
theorem y0P {c:Cfg} {rs rh n:Nat} {w:Wd} (h:h0C c rs rh n w) (hst:c.st≤64):(d0D w).length≤16384:=by
 have h1:=y0E w.st h.room;have h2:=h.len;unfold d0D;omega
theorem u0W {c:Cfg} {rs rh n:Nat} {w:Wd} (h:h0C c rs rh n w):∀p∈d0D w,r0H rs rh n p:=fun p hp=>by
 obtain ⟨l,hl,hp2⟩:=List.mem_flatten.1 hp;exact h.it l hl p hp2
theorem x0S {c:Cfg} {rs rh n:Nat} {w:Wd} (h:h0C c rs rh n w) (hst:c.st≤64):h0C c rs rh (n+1) (h0S w).1:=by
 have hm:=h.mono (Nat.le_succ n);have hep:=h.ep;unfold h0S
 split
 · exact hm
 · refine ⟨hm.len,hm.room,hm.it,?_,fun q hq=>?_,fun q hq=>?_,?_⟩
   · show (w.cuts++[_]).length≤n+1
     have:=h.cuts
     simp;omega
   · rcases List.mem_append.1 hq with h9|h9
     · exact hm.cit q h9
     · rw [List.mem_singleton.1 h9]
       exact ⟨by have:=y0P h hst;show (d0D w).length≤20000;omega,fun p hp=>(u0W h p hp).mono (Nat.le_succ n)⟩
   · rcases List.mem_append.1 hq with h9|h9
     · exact hm.cep q h9
     · rw [List.mem_singleton.1 h9]
       show 0≤w.ep+1∧w.ep+1≤((n+1:Nat):Int)
       omega
   · show 0≤w.ep+1∧w.ep+1≤((n+1:Nat):Int)
     omega
theorem z0O {c:Cfg} {rs rh n:Nat} {w:Wd} {k:Int} (h:h0C c rs rh n w):h0C c rs rh (n+1) (l0D w k).1:=by
 have hm:=h.mono (Nat.le_succ n);unfold l0D
 split
 · exact hm
 · refine ⟨hm.len,hm.room,hm.it,?_,fun q hq=>?_,fun q hq=>?_,hm.ep⟩
   · show (w.cuts.set _ _).length≤n+1
     have:=h.cuts
     simp;omega
   · rcases List.mem_or_eq_of_mem_set hq with h9|h9
     · exact hm.cit q h9
     · rw [h9];exact ⟨Nat.zero_le _,(fun p hp=>by cases hp)⟩
   · rcases List.mem_or_eq_of_mem_set hq with h9|h9
     · exact hm.cep q h9
     · rw [h9];show (0:Int)≤0∧(0:Int)≤((n+1:Nat):Int);omega
theorem o1A {c:Cfg} {rs rh n:Nat} {w:Wd} {x:b0Z} (h:h0C c rs rh n w) (hst:c.st≤64) (hlo:c.lo≤256) (h1:1≤rh) (hx:x.ok):h0C c rs rh (n+1) (doW c rs rh w x).1:=by
 have hm:=h.mono (Nat.le_succ n);obtain ⟨x1,x2,x3,x4,x5,x6⟩:=hx;unfold doW
 split
 · exact hm
 · split
   · exact n0E h hlo ⟨⟨x3,x4⟩,q0B⟩ h1
   · split
     · exact x0P h
     · split
       · exact x0S h hst
       · split
         · exact z0O h
         · split
           · exact hm
           · split
             · exact n0E h hlo ⟨⟨e1Z,e1Z⟩,x6⟩ h1
             · split
               · exact hm
               · split
                 · exact hm
                 · exact ⟨hm.len,hm.room,hm.it,hm.cuts,hm.cit,hm.cep,hm.ep⟩
theorem z0P {c:Cfg} {rs rh n:Nat} {w:Wd} {id:ByteArray} {a:Adv} (h:h0C c rs rh n w) (hlo:c.lo≤256) (h1:1≤rh):h0C c rs rh (n+1) (e0D c rs rh w id a).1:=by
 unfold e0D
 split
 · exact h.mono (Nat.le_succ n)
 · exact n0E h hlo ⟨⟨e1Z,e1Z⟩,q0B⟩ h1
end
section
open Go.RowKit Go.Lib Go.Sort
theorem h0F (N:Nat) (x:Nd) (rs rh:Nat) (fp:List Nat) (w:World) (h:b0G w N x rs rh fp) (hrs:rs≤256) :
 Calls Tryz.prog 107 #[.pointer (some ⟨N,0,none⟩)] w (i0L c0B 111 2 w x.smp):=by
 have HM:=jH (e0M N x rs rh fp w h);obtain ⟨S,fs,H,fh,h1,h2,h3,h4,h5,h6,hfp,h7,h8⟩:=h;unfold ndC at h1;have HS:=jH h2;have H1:=jH h1;clear h1 h2 h3 h4 h5 h6 hfp h7
 go_enter Tryz.func107,Tryz.ntmps107
 go_wp2_with (first
  | (go_at_call 174
     refine HM.out.mono ?_;rintro e w2 ⟨rfl,hb2⟩;obtain ⟨a1,a2,a3⟩:=a0A hb2 H1.out;have HB2:=jH hb2;clear hb2)
  | (go_at_call 128
     refine (e0E S _ _ fs w2 (HS.out.below HB2.out) (by omega)).mono ?_;rintro e w3 ⟨A,c,fq,rfl,hq,hf,hb3⟩;have HQ:=jH hq;have HF:=jH hf;have HB3:=jH hb3;clear hq hf hb3))
 go_ret
 have hs:=HB2.out.size;exact ⟨A,c,fq,rfl,HQ.out,fun k hk=>Nat.le_trans hs (HF.out k hk),a0D HB2.out HB3.out⟩
end
section
open Go.RowKit Go.Lib Go.Shelf
section
attribute [local go_sem] Oper.semAt_some
def Kp (n₀:Nat) (W W':World):Prop:=Below n₀ W W'∧KeepsWalks W W'
theorem kp_t {n₀:Nat} {A B C:World} (h:Kp n₀ A B) (k:Kp n₀ B C):Kp n₀ A C:=⟨h.1.trans k.1,h.2.trans k.2⟩
theorem kp_b {n₀:Nat} {w:World} (hn:n₀≤w.heap.size) (W:World) (l:Nat) (o o':Obj) (hl:w.heap.size≤l) (h:W.heap[l]?=some o) (hc:o.isCells=false) (hw:o.isWalk=false):Kp n₀ W (W.putObj l o') :=
 ⟨belowK_b hn W l o o' hl h hc hw,walksK_b (w:=w) W l o o' hl h hc hw⟩
def i1K (W:World) (B:Nat) (x:Ky):Prop:=W.heap[B]?=some (.cells #[.int .u64 x.1,.int .u64 x.2] 74 (0,0))
theorem i1K.lt {W:World} {B:Nat} {x:Ky} (h:i1K W B x):B<W.heap.size:=(jL h)
theorem i1K.c0 {W:World} {B:Nat} {x:Ky} (h:i1K W B x):W.cell? ⟨B,0,none⟩=some (.int .u64 x.1):=by simp [World.cell?,show W.heap[B]?=_ from h]
theorem i1K.c1 {W:World} {B:Nat} {x:Ky} (h:i1K W B x):W.cell? ⟨B,1,none⟩=some (.int .u64 x.2):=by simp [World.cell?,show W.heap[B]?=_ from h]
theorem i1K.kept {W W':World} {B:Nat} {x:Ky} {row:Option Nat} (h:i1K W B x) (hg:W.grownBy W' row) (hne:some B≠row):i1K W' B x:=(hg.block B h.lt hne).trans h
theorem k1N (B:Nat) (x:Ky):Own (fun (_:Unit) W=>i1K W B x):=fun s X Y row hs hg hrow =>
 hs.kept hg (fun e'=>by obtain ⟨o,ho,hc⟩:=hrow B e'.symm;rw [show X.heap[B]?=_ from hs] at ho;cases ho;cases hc)
abbrev encA (x:Ky):Array Value:=#[.agg #[.int .u64 x.1,.int .u64 x.2]]
theorem t0D (n:Nat) (hn:2≤n) (gf:Nat) (lb:Array Value) (eg:∀args w,(callFunc gf args).run Tryz.prog w=.ok (.enter gf args) w)
    (S Sp:List Ky→Prop) (N:Nat) (hN:N≤1000000) (w:World) (hseq:∀w',jB w w'→SeqStopsK Fence.wide (n - 1) Tryz.prog gf lb encA (Kp w.heap.size) S Sp N w') :
    CallsIn Fence.wide n Tryz.prog 295 #[.slice none 0 0,.func (.func gf) #[] lb] w fun e w'=>∃(v:Value) (ss:List Ky),e=.returned v∧S ss∧w'.ownsRow w.heap.size 74 2 v ss.length (a0F l0I ss)∧jB w w':=by
  have h1:1≤n:=by omega
  obtain ⟨i0,hi,hz0,hz1,hz2⟩:=info_parts l1U;refine callsIn_of_wp_marks Tryz.func295 rfl trivial ?_ rfl;simp only [Tryz.ntmps295,List.size_toArray,List.length_cons,List.length_nil,Nat.reduceAdd,Nat.reduceSub,Array.replicate_succ,Array.replicate_zero,List.push_toArray,List.append_toArray,List.nil_append,List.cons_append]
  gi_wp2
  have bS:=Boxed.new w 92 (.slice none 0 0);have hB0:jB w (w.alloc (.cells #[.slice none 0 0] 92)):=(Below.refl _ w).alloc (Nat.le_refl _) _;have hsz:(w.alloc (.cells #[.slice none 0 0] 92)).heap.size=w.heap.size+1:=by simp
  obtain ⟨W0,hW0⟩:∃W0,w.alloc (.cells #[.slice none 0 0] 92)=W0:=⟨_,rfl⟩;rw [hW0] at bS hB0 hsz ⊢;clear hW0
  refine wpIn_rangeFunc_ownH rfl h1 (gf:=gf) (lb:=lb) rfl trivial eg (hseq W0 hB0) kp_t (kp_b (by omega)) jR (fun _=>rfl)
    (fun pre W=>(∃v,Boxed W w.heap.size 92 v∧W.ownsRow w.heap.size 74 2 v pre.length (a0F l0I pre)∧True)∧jB w W)
    (fun _ _ _=>False)
    (OwnFrom.and (Own.from (holdsRow_own w.heap.size w.heap.size 92 74 2 (fun pre=>pre.length) (fun pre=>a0F l0I pre) (fun _ _=>True)) _) (ownFrom_below (Nat.le_refl _) (by omega)))
    (fun _ _ _ _ _ hs _ _=>hs)
    ⟨⟨_,bS,World.ownsRow_nil _ _ _ _,trivial⟩,hB0⟩
    (fun x a' W=>∃Bx,w.heap.size<Bx∧i1K W Bx x∧a' = { tmps:=#[.slice none 0 0,.func (.func gf) #[] lb,.pointer (some ⟨w.heap.size,0,none⟩),undef,.slice none 0 0,.pointer (some ⟨Bx,0,none⟩),.func (.func gf) #[] lb,.agg #[.int .u64 x.1,.int .u64 x.2],undef,undef,undef,undef,undef],defers:=[] })
    (fun x a' _ X Y row hs hg hr=>by obtain ⟨Bx,h1,h2,h3⟩:=hs;exact ⟨Bx,h1,k1N Bx x () X Y row h2 hg (fun r e=>(hr r e).2),h3⟩)
    ?assign ?body ?done ?stop
  case assign =>
   rintro l pre x W K ⟨⟨v,hv,hrow,_⟩,hB⟩ hK;have hs:=hB.size
   gi_wp2
   have hW:jB W (W.alloc (.cells #[.int .u64 x.1,.int .u64 x.2] 74)):=(Below.refl _ W).alloc (Nat.le_refl _) _
   exact hK _ _ ((KeepsOthers.alloc _ _).from _) ⟨hW.mono hs,KeepsWalks.alloc _ _⟩
     ⟨⟨v,(hW.block _ hv.lt).trans hv,n0X hrow hW,trivial⟩,hB.trans (hW.mono hs)⟩ ⟨W.heap.size,hv.lt,World.alloc_heap_new W _,rfl⟩
  case body =>
   rintro l pre x a' W hl ⟨r,hr⟩ ⟨⟨v,hv,hrow,_⟩,hB⟩ ⟨Bx,hBx,bX,rfl⟩ hlt;have hc:=hv.cell;have k0:=bX.c0;have k1:=bX.c1;have hs:=hB.size;have hpl:pre.length<1000000:=by omega
   gi_wp2_with (gi_at_builtin;refine wpListIn_append_own _ rfl _ _ 92 rfl w.heap.size 74 i0 (.agg #[.int .u64 0,.int .u64 0]) 2 16 Tryz.underlying92 hi hz0 hz1 hz2 rfl (by decide) _ _ _ rfl (hrow.alloc _) ⟨W.heap.size,0,none⟩ 1 1 (l0I x) rfl rfl (y0B _ _ _ _ rfl) (l1L x) (by simp only [maxLen];omega) (by omega) (by simp;omega) ?_;intro v' w1 hown' hgrow _;obtain ⟨g',cap',rfl⟩:=ownsRow_succ hown';obtain ⟨hv1,hv2,hr2,hk2,hb2⟩:=hv.appended (by decide) hrow hB.size (Nat.le_refl _) hown' hgrow;have hc1:=hv1.cell;have hf1:=hv1.frozen)
   have e1:(pre++[x]).length=pre.length+1:=by simp
   have e2:a0F l0I (pre++[x])=a0F l0I pre++l0I x:=by rw [b0W];simp [a0F]
   exact ⟨hk2.from _,⟨hb2,hk2.walks⟩,⟨_,hv2,by rw [e1,e2];exact hr2,trivial⟩,hB.trans hb2⟩
  case done =>
   rintro D ys W hD hS ⟨⟨v,hv,hrow,_⟩,hB⟩ hK;have hc:=hv.cell
   gi_wp2
   refine ⟨by simp,.inl ⟨_,_,rfl,run_takeDeferred hK,?_⟩⟩;exact ⟨_,results_tmp rfl _ _ _,v,ys,rfl,hS,ownsRow_putObj hrow _ hK rfl,hB.trans (belowK_b (w:=w) (Nat.le_refl _) W D _ _ (by omega) hK rfl rfl)⟩
  case stop =>
   rintro D c pre W _ _ h _;exact h.elim
theorem w0S {n gf:Nat} {lb:Array Value} {Kq:World→World→Prop} {S Sp:List Ky→Prop} {N:Nat} {w w':World} (hb:jB w w') (h:SeqStopsK Fence.wide n Tryz.prog gf lb encA Kq S Sp N w):SeqStopsK Fence.wide n Tryz.prog gf lb encA Kq S Sp N w' :=
 fun l J Jx W hW h1 h2 h3 h4=>h l J Jx W (hb.trans (hW.mono hb.size)) h1 h2 h3 h4
theorem c1R (n:Nat) (hn:3≤n) (gf:Nat) (lb:Array Value) (eg:∀args w,(callFunc gf args).run Tryz.prog w=.ok (.enter gf args) w)
    (S Sp:List Ky→Prop) (N:Nat) (hN:N≤1000000) (w:World) (hseq:SeqStopsK Fence.wide (n - 1 - 1) Tryz.prog gf lb encA (Kp w.heap.size) S Sp N w) :
    CallsIn Fence.wide n Tryz.prog 257 #[.func (.func gf) #[] lb] w fun e w'=>∃(v:Value) (ss:List Ky),e=.returned v∧S ss∧w'.ownsRow w.heap.size 74 2 v ss.length (a0F l0I ss)∧jB w w':=by
  have h1:1≤n:=by omega
  have e11:∀args w,(callFunc 295 args).run Tryz.prog w=.ok (.enter 295 args) w:=enters_of Tryz.func295 (by kernel_rfl) rfl;refine callsIn_of_wp Tryz.func257 rfl trivial ?_ rfl;simp only [Tryz.ntmps257,List.size_toArray,List.length_cons,List.length_nil,Nat.reduceAdd,Nat.reduceSub,Array.replicate_succ,Array.replicate_zero,List.push_toArray,List.append_toArray,List.nil_append,List.cons_append]
  gi_wp2_with (refine ⟨trivial,?_⟩;gi_at_call 295;refine (t0D (n - 1) (by omega) gf lb eg S Sp N hN _ (fun w' hb=>w0S hb hseq)).mono ?_;rintro e w' ⟨v,ss,rfl,hS,hrow,hb⟩)
  go_ret
  exact ⟨v,ss,rfl,hS,hrow,hb⟩
end
section
attribute [local go_sem] Oper.semAt_some
def intOf:Value→Int
  | .int _ i=>i
  | _=>0
def Lists (w:World) (ss:List Ky) (e:Ending) (w':World):Prop :=
 ∃v,e=.returned v∧w'.ownsRow w.heap.size 74 2 v ss.length (a0F l0I ss)∧jB w w'
end
end
end Go.Proofs.YtmniiodpbebnmaaGreat
