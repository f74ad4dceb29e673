/- Part 14 of the proof: RIt, RIt2, RIt3, RIt4. -/
import Derived.Test.YtkcdhaallnhhmaaGreatQ12
namespace Go.Proofs.YtkcdhaallnhhmaaGreat
set_option linter.unusedSimpArgs false
set_option linter.unusedVariables false
set_option linter.unusedSectionVars false
set_option maxRecDepth 100000
set_option maxHeartbeats 16000000
section
open Go.RowKit Go.Lib Go.Sort
structure It where
 key:Ky
 sA:Option Addr
 sc:Nat
 pA:Option Addr
 pc:Nat
 nd:Nd
def loadC (x:It):List Value:=[.slice x.sA x.nd.smp.length x.sc,.slice x.pA x.nd.past.length x.pc,.int .i64 x.nd.pol.mn,.int .i64 x.nd.pol.mx,.int .i64 x.nd.pol.tg,.int .i64 x.nd.pol.tol,.int .i64 x.nd.pol.win,.int .i64 x.nd.pol.hold,.bool x.nd.ruled,.int .i64 (x.nd.ver:Nat)]
def itC (x:It):List Value:=[.int .u64 x.key.1,.int .u64 x.key.2,.slice x.sA x.nd.smp.length x.sc,.slice x.pA x.nd.past.length x.pc,.int .i64 x.nd.pol.mn,.int .i64 x.nd.pol.mx,.int .i64 x.nd.pol.tg,.int .i64 x.nd.pol.tol,.int .i64 x.nd.pol.win,.int .i64 x.nd.pol.hold,.bool x.nd.ruled,.int .i64 (x.nd.ver:Nat)]
theorem eIt:EltOf 174 242 12 128 (.agg #[.int .u64 0,.int .u64 0,.slice none 0 0,.slice none 0 0,.int .i64 0,.int .i64 0,.int .i64 0,.int .i64 0,.int .i64 0,.int .i64 0,.bool false,.int .i64 0]) itC :=
 ⟨by kernel_rfl,by kernel_rfl,rfl,by decide,by decide,fun _=>rfl,fun x u hu=>by
  simp only [itC,List.mem_cons,List.not_mem_nil,or_false] at hu
  rcases hu with rfl|rfl|rfl|rfl|rfl|rfl|rfl|rfl|rfl|rfl|rfl|rfl <;> rfl⟩
def LoadIn (P:Nat→Prop) (w:World) (x:It):Prop:=RowG P 2 smpC w (.slice x.sA x.nd.smp.length x.sc) x.nd.smp∧RowG P 5 advC w (.slice x.pA x.nd.past.length x.pc) x.nd.past
theorem LoadIn.below {P:Nat→Prop} {w w':World} {x:It} (h:LoadIn P w x) (hb:jB w w'):LoadIn P w' x:=⟨h.1.below hb,h.2.below hb⟩
theorem LoadIn.imp {P Q:Nat→Prop} {w:World} {x:It} (h:LoadIn P w x) (hi:∀b,P b→Q b):LoadIn Q w x:=⟨h.1.imp hi,h.2.imp hi⟩
def ItemsIn (P:Nat→Prop) (w:World) (v:Value) (l:List It):Prop:=RowG P 12 itC w v l∧∀x∈l,LoadIn P w x
theorem ItemsIn.imp {P Q:Nat→Prop} {w:World} {v:Value} {l:List It} (h:ItemsIn P w v l) (hi:∀b,P b→Q b):ItemsIn Q w v l:=⟨h.1.imp hi,fun x hx=>(h.2 x hx).imp hi⟩
theorem ItemsIn.below {P:Nat→Prop} {w w':World} {v:Value} {l:List It} (h:ItemsIn P w v l) (hb:jB w w'):ItemsIn P w' v l:=⟨h.1.below hb,fun x hx=>(h.2 x hx).below hb⟩
def atI (l:List It) (k:Ky):Nat:=(l.takeWhile (fun x=>ltK x.key k)).length
theorem atI_le (l:List It) (k:Ky):atI l k≤l.length:=by
 unfold atI;exact (List.takeWhile_prefix _).length_le
theorem atI_lt {l:List It} {k:Ky}:∀{i:Nat} (h:i<l.length),i<atI l k→ltK l[i].key k=true:=by
 induction l with
 | nil=>intro i h;simp at h
 | cons a l ih =>
   intro i h hi
   by_cases ha:ltK a.key k=true
   · have e:atI (a::l) k=atI l k+1:=by simp [atI,ha]
     rw [e] at hi
     cases i with
     | zero=>exact ha
     | succ i=>simpa using ih (by simpa using h) (by omega)
   · have e:atI (a::l) k=0:=by simp [atI,ha]
     omega
theorem atI_ge {l:List It} {k:Ky} (h:atI l k<l.length):ltK l[atI l k].key k=false:=by
 induction l with
 | nil=>simp at h
 | cons a l ih =>
   by_cases ha:ltK a.key k=true
   · have e:atI (a::l) k=atI l k+1:=by simp [atI,ha]
     simp only [e] at h ⊢
     simp only [List.getElem_cons_succ]
     exact ih (by simpa using h)
   · have e:atI (a::l) k=0:=by simp [atI,ha]
     simp only [e,List.getElem_cons_zero]
     simpa using ha
theorem iat_any (v:Value) (l:List It) (k:Ky) (w:World) (hv:RowIn 12 itC w v l) (hl:l.length≤1000000) (hok:∀x∈l,x.key.ok) (hk:k.ok) :
 Calls Tryz.prog 214 #[v,.agg #[.int .u64 k.1,.int .u64 k.2]] w (jP w (.int .i64 (atI l k:Nat))):=by
 obtain ⟨A,c,rfl⟩:=hv.form;have HV:=jH hv;have HK:=jH hok;clear hv hok
 go_enter Tryz.func214,Tryz.ntmps214
 go_wp2_with fail
 refine name_world ?_;intro W hW;obtain ⟨k0,k1,hs,hb⟩:=box_one w k W hW;clear hW;go_wp2
 go_loopg [5] l.length (fun g s5 wr=>∃a:Nat,a≤atI l k∧l.length - a≤g∧s5=.int .i64 a∧jB W wr)
 case atStart=>exact ⟨0,Nat.zero_le _,Nat.le_refl _,rfl,jR⟩
 case round =>
  obtain ⟨a,ha,hga,rfl,hbi⟩:=hrel
  by_cases hal:a<l.length
  · obtain ⟨b,o,rfl,hbw,hc⟩:=HV.out.at_ hal
    have c1:w.cell? ⟨b,o+a * 12,none⟩=some (.int .u64 l[a].key.1):=hc 0 _ rfl;have c2:w.cell? ⟨b,o+a * 12+1,none⟩=some (.int .u64 l[a].key.2):=hc 1 _ rfl;have hyok:l[a].key.ok:=HK.out _ (List.getElem_mem hal);have hless:ltK l[a].key k=decide (a<atI l k):=by
     by_cases h:a<atI l k
     · rw [atI_lt hal h];simp [h]
     · have e:a=atI l k:=by omega
       subst e;rw [atI_ge hal];simp
    have HL:=jH hless;generalize l[a].key=y at c1 c2 hyok hless HL;have HSB:=jH (show ∀U,jB W U→(U.cell? ⟨w.heap.size,0,none⟩=some (.int .u64 k.1)∧U.cell? ⟨w.heap.size,1,none⟩=some (.int .u64 k.2)∧U.cell? ⟨b,o+a * 12,none⟩=some (.int .u64 y.1)∧U.cell? ⟨b,o+a * 12+1,none⟩=some (.int .u64 y.2)∧jB W U) from fun U hU =>
     ⟨(hU.cell (p:=⟨w.heap.size,0,none⟩) (by simp;omega)).trans k0,(hU.cell (p:=⟨w.heap.size,1,none⟩) (by simp;omega)).trans k1,((bthen hb hU).cell (p:=⟨b,_,none⟩) hbw).trans c1,((bthen hb hU).cell (p:=⟨b,_,none⟩) hbw).trans c2,hU⟩)
    have HS0:=HSB.out _ hbi.drew;clear hc c1 c2 hless k0 k1
    by_cases hlt:a<atI l k
    · have Hly:Hid (ltK y k=true):=jH (by rw [HL.out];simp [hlt])
      clear HL;go_wp2_with fail
      go_region_held3 (fun w'=>w'.cell? ⟨w.heap.size,0,none⟩=some (.int .u64 k.1)∧w'.cell? ⟨w.heap.size,1,none⟩=some (.int .u64 k.2)∧w'.cell? ⟨b,o+a * 12,none⟩=some (.int .u64 y.1)∧w'.cell? ⟨b,o+a * 12+1,none⟩=some (.int .u64 y.2)∧jB W w')
        (first|assumption|exact keepS HSB.out (by assumption) hb1 rfl)
        (first|(go_at_call 232;refine (less_any y k _ hyok hk).mono ?_;rw [Hly.out];rintro e w1 ⟨rfl,hb1⟩))
      obtain ⟨_,_,_,_,r5⟩:=‹w1.cell? _=_∧_›;go_wp2
      go_roundg (l.length - (a+1))
      case measure=>omega
      case rel=>exact ⟨a+1,hlt,Nat.le_refl _,by go_num,r5⟩
    · have Hly:Hid (ltK y k=false):=jH (by rw [HL.out];simp [hlt])
      clear HL;go_wp2_with fail
      go_region_held3 (fun w'=>w'.cell? ⟨w.heap.size,0,none⟩=some (.int .u64 k.1)∧w'.cell? ⟨w.heap.size,1,none⟩=some (.int .u64 k.2)∧w'.cell? ⟨b,o+a * 12,none⟩=some (.int .u64 y.1)∧w'.cell? ⟨b,o+a * 12+1,none⟩=some (.int .u64 y.2)∧jB W w')
        (first|assumption|exact keepS HSB.out (by assumption) hb1 rfl)
        (first|(go_at_call 232;refine (less_any y k _ hyok hk).mono ?_;rw [Hly.out];rintro e w1 ⟨rfl,hb1⟩))
      obtain ⟨_,_,_,_,r5⟩:=‹w1.cell? _=_∧_›;go_wp2
      go_ret
      exact ⟨by first|rfl|(rw [show a=atI l k by omega];rfl),bthen hb r5⟩
  · have hle:=atI_le l k
    obtain rfl:a=l.length:=by omega
    have E:=jH (show atI l k=l.length by omega);clear ha hle;go_wp2_with fail
    go_quiet (fail)
    go_wp2
    go_ret
    exact ⟨by rw [E.out];rfl,bthen hb (below_drewN hbi _)⟩
end
section
open Go.RowKit Go.Lib Go.Sort
def hasI (l:List It) (k:Ky):Bool:=if h:atI l k<l.length then decide (l[atI l k].key=k) else false
theorem ihas_any (v:Value) (l:List It) (k:Ky) (w:World) (hv:RowIn 12 itC w v l) (hl:l.length≤1000000) (hok:∀x∈l,x.key.ok) (hk:k.ok) :
 Calls Tryz.prog 183 #[v,.agg #[.int .u64 k.1,.int .u64 k.2]] w (jP w (.bool (hasI l k))):=by
 obtain ⟨A,c,rfl⟩:=hv.form;have HAT:=jH (fun (W:World) (hb:jB w W)=>iat_any _ l k W (hv.below hb) hl hok hk);have HV:=jH hv;unfold hasI;clear hv
 by_cases hal:atI l k<l.length
 · rw [dif_pos hal]
   obtain ⟨b,o,rfl,hbw,hc⟩:=HV.out.at_ hal;have c1:w.cell? ⟨b,o+atI l k * 12,none⟩=some (.int .u64 l[atI l k].key.1):=hc 0 _ rfl;have c2:w.cell? ⟨b,o+atI l k * 12+1,none⟩=some (.int .u64 l[atI l k].key.2):=hc 1 _ rfl;have hyok:=hok _ (List.getElem_mem hal);generalize l[atI l k].key=y at c1 c2 hyok ⊢;have HC1:=jH c1;have HC2:=jH c2;clear hc c1 c2 hok;generalize ha:atI l k=a at *;clear ha
   by_cases hyk:y=k
   · subst hyk
     rw [decide_eq_true rfl]
     go_enter Tryz.func183,Tryz.ntmps183
     go_wp2_with (first
      | (go_at_call 214
         refine calls_named ?_;intro W1 hW1;obtain ⟨k0,k1,hs,hb⟩:=box_one w y W1 hW1;clear hW1;refine (HAT.out W1 hb).mono ?_;rintro e w2 ⟨rfl,hb2⟩;have a1:=(hb2.cell (p:=⟨w.heap.size,0,none⟩) (by simp;omega)).trans k0;have a2:=(hb2.cell (p:=⟨w.heap.size,1,none⟩) (by simp;omega)).trans k1;have a3:=((bthen hb hb2).cell (p:=⟨b,_,none⟩) hbw).trans HC1.out;have a4:=((bthen hb hb2).cell (p:=⟨b,_,none⟩) hbw).trans HC2.out
         have HB:=jH (bthen hb hb2);clear k0 k1 hs hb hb2))
     go_quiet (fail)
     go_wp2
     go_ret
     exact ⟨rfl,below_drewN HB.out _⟩
   · rw [decide_eq_false hyk]
     by_cases h1:y.1=k.1
     · have hh:((y.2:Int) == (k.2:Int))=false:=by
        have:y.2≠k.2:=fun h2=>hyk (Prod.ext h1 h2)
        simp;omega
       rw [h1] at HC1;clear hyk h1
       go_enter Tryz.func183,Tryz.ntmps183
       go_wp2_with (first
        | (go_at_call 214
           refine calls_named ?_;intro W1 hW1;obtain ⟨k0,k1,hs,hb⟩:=box_one w k W1 hW1;clear hW1;refine (HAT.out W1 hb).mono ?_;rintro e w2 ⟨rfl,hb2⟩;have a1:=(hb2.cell (p:=⟨w.heap.size,0,none⟩) (by simp;omega)).trans k0;have a2:=(hb2.cell (p:=⟨w.heap.size,1,none⟩) (by simp;omega)).trans k1;have a3:=((bthen hb hb2).cell (p:=⟨b,_,none⟩) hbw).trans HC1.out;have a4:=((bthen hb hb2).cell (p:=⟨b,_,none⟩) hbw).trans HC2.out
           have HB:=jH (bthen hb hb2);clear k0 k1 hs hb hb2))
       go_quiet (fail)
       go_wp2
       go_ret
       exact ⟨rfl,below_drewN HB.out _⟩
     · have hh:((y.1:Int) == (k.1:Int))=false:=by simp;omega
       clear hyk h1
       go_enter Tryz.func183,Tryz.ntmps183
       go_wp2_with (first
        | (go_at_call 214
           refine calls_named ?_;intro W1 hW1;obtain ⟨k0,k1,hs,hb⟩:=box_one w k W1 hW1;clear hW1;refine (HAT.out W1 hb).mono ?_;rintro e w2 ⟨rfl,hb2⟩;have a1:=(hb2.cell (p:=⟨w.heap.size,0,none⟩) (by simp;omega)).trans k0;have a2:=(hb2.cell (p:=⟨w.heap.size,1,none⟩) (by simp;omega)).trans k1;have a3:=((bthen hb hb2).cell (p:=⟨b,_,none⟩) hbw).trans HC1.out;have a4:=((bthen hb hb2).cell (p:=⟨b,_,none⟩) hbw).trans HC2.out
           have HB:=jH (bthen hb hb2);clear k0 k1 hs hb hb2))
       go_quiet (fail)
       go_wp2
       go_ret
       exact ⟨rfl,below_drewN HB.out _⟩
 · rw [dif_neg hal]
   have hle:=atI_le l k;have e1:atI l k=l.length:=by omega
   rw [e1] at HAT
   go_enter Tryz.func183,Tryz.ntmps183
   go_wp2_with (first
    | (go_at_call 214
       refine calls_named ?_;intro W1 hW1;obtain ⟨k0,k1,hs,hb⟩:=box_one w k W1 hW1;clear hW1;refine (HAT.out W1 hb).mono ?_;rintro e w2 ⟨rfl,hb2⟩;have HB:=jH (bthen hb hb2);clear k0 k1 hs hb hb2))
   go_quiet (fail)
   go_wp2
   go_ret
   exact ⟨rfl,below_drewN HB.out _⟩
end
section
open Go.RowKit Go.Lib Go.Sort
def it0:It:=⟨(0,0),none,0,none,0,nd0⟩
def getL (l:List It) (k:Ky):It:=if h:atI l k<l.length then (if l[atI l k].key=k then l[atI l k] else it0) else it0
theorem getL_has {l:List It} {k:Ky} (h:hasI l k=true):∃hl:atI l k<l.length,getL l k=l[atI l k]:=by
 unfold hasI at h
 split at h
 · rename_i hl
   refine ⟨hl,?_⟩;unfold getL;rw [dif_pos hl,if_pos (by simpa using h)]
 · cases h
theorem getL_none {l:List It} {k:Ky} (h:hasI l k=false):getL l k=it0:=by
 unfold hasI at h;unfold getL
 split at h
 · rename_i hl
   rw [dif_pos hl,if_neg (by simpa using h)]
 · rename_i hl
   rw [dif_neg hl]
theorem two_boxes (w:World) (o1 o2:Obj):∀W,W=(w.alloc o1).alloc o2→W.heap[w.heap.size]?=some o1∧W.heap[w.heap.size+1]?=some o2∧W.heap.size=w.heap.size+2∧jB w W:=by
 rintro W rfl;refine ⟨(Below.heap_alloc _ _ _ (by simp)).trans (heap_alloc_new _ _),?_,by simp,balloc (balloc jR _) _⟩;have:=heap_alloc_new (w.alloc o1) o2;rw [World.size_alloc] at this;exact this
theorem set10 {w:World} {B:Nat} {u0 u1 u2 u3 u4 u5 u6 u7 u8 u9:Value} {T:TypeId} (h:w.heap[B]?=some (.cells #[u0,u1,u2,u3,u4,u5,u6,u7,u8,u9] T (0,0))) (v0 v1 v2 v3 v4 v5 v6 v7 v8 v9:Value):∀W,W=(((((((((w.setCell ⟨B,0,none⟩ v0).setCell ⟨B,1,none⟩ v1).setCell ⟨B,2,none⟩ v2).setCell ⟨B,3,none⟩ v3).setCell ⟨B,4,none⟩ v4).setCell ⟨B,5,none⟩ v5).setCell ⟨B,6,none⟩ v6).setCell ⟨B,7,none⟩ v7).setCell ⟨B,8,none⟩ v8).setCell ⟨B,9,none⟩ v9 →
    W.heap[B]?=some (.cells #[v0,v1,v2,v3,v4,v5,v6,v7,v8,v9] T (0,0))∧(∀k,k≠B→W.heap[k]?=w.heap[k]?)∧W.heap.size=w.heap.size∧∀n,n≤B→Below n w W:=by
  rintro W rfl;refine ⟨?_,fun k hk=>?_,by simp [World.setCell],fun n hn=>?_⟩
  · have h0:(w.setCell ⟨B,0,none⟩ v0).heap[B]?=some (.cells #[v0,u1,u2,u3,u4,u5,u6,u7,u8,u9] T (0,0)):=setCell_block (i:=0) (v:=v0) h
    have h1:((w.setCell ⟨B,0,none⟩ v0).setCell ⟨B,1,none⟩ v1).heap[B]?=some (.cells #[v0,v1,u2,u3,u4,u5,u6,u7,u8,u9] T (0,0)):=setCell_block (i:=1) (v:=v1) h0;have h2:(((w.setCell ⟨B,0,none⟩ v0).setCell ⟨B,1,none⟩ v1).setCell ⟨B,2,none⟩ v2).heap[B]?=some (.cells #[v0,v1,v2,u3,u4,u5,u6,u7,u8,u9] T (0,0)):=setCell_block (i:=2) (v:=v2) h1;have h3:((((w.setCell ⟨B,0,none⟩ v0).setCell ⟨B,1,none⟩ v1).setCell ⟨B,2,none⟩ v2).setCell ⟨B,3,none⟩ v3).heap[B]?=some (.cells #[v0,v1,v2,v3,u4,u5,u6,u7,u8,u9] T (0,0)):=setCell_block (i:=3) (v:=v3) h2
    have h4:(((((w.setCell ⟨B,0,none⟩ v0).setCell ⟨B,1,none⟩ v1).setCell ⟨B,2,none⟩ v2).setCell ⟨B,3,none⟩ v3).setCell ⟨B,4,none⟩ v4).heap[B]?=some (.cells #[v0,v1,v2,v3,v4,u5,u6,u7,u8,u9] T (0,0)):=setCell_block (i:=4) (v:=v4) h3;have h5:((((((w.setCell ⟨B,0,none⟩ v0).setCell ⟨B,1,none⟩ v1).setCell ⟨B,2,none⟩ v2).setCell ⟨B,3,none⟩ v3).setCell ⟨B,4,none⟩ v4).setCell ⟨B,5,none⟩ v5).heap[B]?=some (.cells #[v0,v1,v2,v3,v4,v5,u6,u7,u8,u9] T (0,0)):=setCell_block (i:=5) (v:=v5) h4
    have h6:(((((((w.setCell ⟨B,0,none⟩ v0).setCell ⟨B,1,none⟩ v1).setCell ⟨B,2,none⟩ v2).setCell ⟨B,3,none⟩ v3).setCell ⟨B,4,none⟩ v4).setCell ⟨B,5,none⟩ v5).setCell ⟨B,6,none⟩ v6).heap[B]?=some (.cells #[v0,v1,v2,v3,v4,v5,v6,u7,u8,u9] T (0,0)):=setCell_block (i:=6) (v:=v6) h5;have h7:((((((((w.setCell ⟨B,0,none⟩ v0).setCell ⟨B,1,none⟩ v1).setCell ⟨B,2,none⟩ v2).setCell ⟨B,3,none⟩ v3).setCell ⟨B,4,none⟩ v4).setCell ⟨B,5,none⟩ v5).setCell ⟨B,6,none⟩ v6).setCell ⟨B,7,none⟩ v7).heap[B]?=some (.cells #[v0,v1,v2,v3,v4,v5,v6,v7,u8,u9] T (0,0)):=setCell_block (i:=7) (v:=v7) h6
    have h8:(((((((((w.setCell ⟨B,0,none⟩ v0).setCell ⟨B,1,none⟩ v1).setCell ⟨B,2,none⟩ v2).setCell ⟨B,3,none⟩ v3).setCell ⟨B,4,none⟩ v4).setCell ⟨B,5,none⟩ v5).setCell ⟨B,6,none⟩ v6).setCell ⟨B,7,none⟩ v7).setCell ⟨B,8,none⟩ v8).heap[B]?=some (.cells #[v0,v1,v2,v3,v4,v5,v6,v7,v8,u9] T (0,0)):=setCell_block (i:=8) (v:=v8) h7;have h9:((((((((((w.setCell ⟨B,0,none⟩ v0).setCell ⟨B,1,none⟩ v1).setCell ⟨B,2,none⟩ v2).setCell ⟨B,3,none⟩ v3).setCell ⟨B,4,none⟩ v4).setCell ⟨B,5,none⟩ v5).setCell ⟨B,6,none⟩ v6).setCell ⟨B,7,none⟩ v7).setCell ⟨B,8,none⟩ v8).setCell ⟨B,9,none⟩ v9).heap[B]?=some (.cells #[v0,v1,v2,v3,v4,v5,v6,v7,v8,v9] T (0,0)):=setCell_block (i:=9) (v:=v9) h8
    exact h9
  · have e:∀(u:World) (i:Nat) (v:Value),(u.setCell ⟨B,i,none⟩ v).heap[k]?=u.heap[k]?:=fun u i v=>Below.heap_setCell _ _ _ _ hk
    rw [e,e,e,e,e,e,e,e,e,e]
  · exact (((((((((((Below.refl n w).setCell hn _).setCell hn _).setCell hn _).setCell hn _).setCell hn _).setCell hn _).setCell hn _).setCell hn _).setCell hn _).setCell hn _)
theorem iget_any (v:Value) (l:List It) (k:Ky) (w:World) (hv:RowIn 12 itC w v l) (hl:l.length≤1000000) (hok:∀x∈l,x.key.ok) (hk:k.ok) :
 Calls Tryz.prog 182 #[v,.agg #[.int .u64 k.1,.int .u64 k.2]] w (jP w (.agg (loadC (getL l k)).toArray)):=by
 obtain ⟨A,c,rfl⟩:=hv.form;have HH:=jH (fun (W:World) (hb:jB w W)=>ihas_any _ l k W (hv.below hb) hl hok hk);have HAT:=jH (fun (W:World) (hb:jB w W)=>iat_any _ l k W (hv.below hb) hl hok hk);have HV:=jH hv;clear hv
 cases hh:hasI l k with
 | true =>
   obtain ⟨hal,hg⟩:=getL_has hh;have HG:=jH hg;rw [hh] at HH;obtain ⟨b,o,rfl,hbw,hc⟩:=HV.out.at_ hal;generalize l[atI l k]=x at hc HG;have HC:=jH (show ∀j u,(itC x)[j]?=some u→w.cell? ⟨b,o+atI l k * 12+j,none⟩=some u from hc);generalize ha:atI l k=a at *;clear ha hg hc hh hok
   go_enter Tryz.func182,Tryz.ntmps182
   go_wp2_with (first
    | (go_at_call 183
       refine calls_named ?_;intro W1 hW1;obtain ⟨k0,k1,hs,hb⟩:=two_boxes w _ _ W1 hW1;clear hW1;refine (HH.out W1 hb).mono ?_;rintro e w2 ⟨rfl,hb2⟩;obtain ⟨a1,a2,a3,a4⟩:=box_at hb2 k0;have HX:=jH (And.intro a4 (jK hb2 k1));have HB:=jH (bthen hb hb2);clear k0 k1 hs hb hb2 a4)
    | (go_at_call 214
       refine (HAT.out w2 HB.out).mono ?_;rintro e w3 ⟨rfl,hb3⟩;obtain ⟨b1,b2,b3⟩:=box_cells hb3 HX.out.2;have hbb:=bthen HB.out hb3;have q0:=(hbb.cell (p:=⟨b,_,none⟩) hbw).trans (HC.out 2 _ rfl);have q1:=(hbb.cell (p:=⟨b,_,none⟩) hbw).trans (HC.out 3 _ rfl);have q2:=(hbb.cell (p:=⟨b,_,none⟩) hbw).trans (HC.out 4 _ rfl);have q3:=(hbb.cell (p:=⟨b,_,none⟩) hbw).trans (HC.out 5 _ rfl);have q4:=(hbb.cell (p:=⟨b,_,none⟩) hbw).trans (HC.out 6 _ rfl)
       have q5:=(hbb.cell (p:=⟨b,_,none⟩) hbw).trans (HC.out 7 _ rfl);have q6:=(hbb.cell (p:=⟨b,_,none⟩) hbw).trans (HC.out 8 _ rfl);have q7:=(hbb.cell (p:=⟨b,_,none⟩) hbw).trans (HC.out 9 _ rfl);have q8:=(hbb.cell (p:=⟨b,_,none⟩) hbw).trans (HC.out 10 _ rfl);have q9:=(hbb.cell (p:=⟨b,_,none⟩) hbw).trans (HC.out 11 _ rfl);have HB3:=jH (And.intro hbb (jK hb3 HX.out.2));clear hb3 hbb))
   refine post_named ?_;intro W4 hW4;obtain ⟨h4,h5,h6,h7⟩:=set10 HB3.out.2 _ _ _ _ _ _ _ _ _ _ W4 hW4;obtain ⟨d1,d2,d3⟩:=box_cells jR h4;have hb4:=HB3.out.1.trans (h7 w.heap.size (by omega));clear hW4;exact bodyPost_ret (v:=.agg (loadC x).toArray) (by simp [results,Tryz.results182,go_sem,loadC,d1]) rfl ⟨by rw [HG.out],hb4⟩
 | false =>
   have HG:=jH (getL_none hh);rw [hh] at HH;clear hh hok
   go_enter Tryz.func182,Tryz.ntmps182
   go_wp2_with (first
    | (go_at_call 183
       refine calls_named ?_;intro W1 hW1;obtain ⟨k0,k1,hs,hb⟩:=two_boxes w _ _ W1 hW1;clear hW1;refine (HH.out W1 hb).mono ?_;rintro e w2 ⟨rfl,hb2⟩;obtain ⟨a1,a2,a3⟩:=box_cells hb2 k0;obtain ⟨b1,b2,b3⟩:=box_cells hb2 k1;have HB:=jH (And.intro (bthen hb hb2) (jK hb2 k1));clear k0 k1 hs hb hb2))
   refine post_named ?_;intro W4 hW4;obtain ⟨h4,h5,h6,h7⟩:=set10 HB.out.2 _ _ _ _ _ _ _ _ _ _ W4 hW4;obtain ⟨d1,d2,d3⟩:=box_cells jR h4;have hb4:=HB.out.1.trans (h7 w.heap.size (by omega));clear hW4;exact bodyPost_ret (v:=.agg (loadC it0).toArray) (by simp [results,Tryz.results182,go_sem,loadC,it0,nd0,pol0,d1]) rfl ⟨by rw [HG.out],hb4⟩
end
section
open Go.RowKit Go.Lib Go.Sort
def withI (l:List It) (k:Ky) (x:It):List It:=l.take (atI l k)++[{ x with key:=k }]++l.drop (if hasI l k=true then atI l k+1 else atI l k)
theorem hasI_lt {l:List It} {k:Ky} (h:hasI l k=true):atI l k<l.length:=(getL_has h).1
theorem iwith_any (v:Value) (l:List It) (k:Ky) (x:It) (w:World) (hv:RowIn 12 itC w v l) (hl:l.length≤1000000) (hok:∀x∈l,x.key.ok) (hk:k.ok) :
 Calls Tryz.prog 184 #[v,.agg #[.int .u64 k.1,.int .u64 k.2],.agg (loadC x).toArray] w (RSays 12 itC w (withI l k x)):=by
 obtain ⟨A,c,rfl⟩:=hv.form;have HH:=jH (fun (W:World) (hb:jB w W)=>ihas_any _ l k W (hv.below hb) hl hok hk);have HAT:=jH (fun (W:World) (hb:jB w W)=>iat_any _ l k W (hv.below hb) hl hok hk);have HV:=jH hv;have hle:=atI_le l k;have hlt:hasI l k=true→atI l k<l.length:=hasI_lt;have HX:Hid ((loadC x).toArray=#[.slice x.sA x.nd.smp.length x.sc,.slice x.pA x.nd.past.length x.pc,.int .i64 x.nd.pol.mn,.int .i64 x.nd.pol.mx,.int .i64 x.nd.pol.tg,.int .i64 x.nd.pol.tol,.int .i64 x.nd.pol.win,.int .i64 x.nd.pol.hold,.bool x.nd.ruled,.int .i64 (x.nd.ver:Nat)]):=jH rfl
 rw [HX.out];have HW:Hid (withI l k x=l.take (atI l k)++[{ x with key:=k }]++l.drop (if hasI l k=true then atI l k+1 else atI l k)):=jH rfl;obtain ⟨mt,At,ct,hmt,hrt,hrowt⟩:=row_to eIt hv (atI l k) hle;obtain ⟨mf,Af,cf,hmf,hrf,hrowf⟩:=row_from eIt hv (if hasI l k=true then atI l k+1 else atI l k) (by split;exact hlt (by assumption);exact hle);have hlmt:mt.length=atI l k:=by rw [hmt];simp;omega
 have hlmf:mf.length≤l.length:=by rw [hmf];simp
 have HMT:=jH hmt;have HMF:=jH hmf;have HRT:=jH hrowt;have HRF:=jH hrowf;have HLT:=jH hlmt;clear hv hok hlt hmt hmf hrowt hrowf hlmt;generalize ha:atI l k=a at *;generalize hh:hasI l k=h at *;obtain ⟨q,hq⟩:∃q,q=if h=true then a+1 else a:=⟨_,rfl⟩;rw [←hq] at hrf;have HQ:=jH hq;clear ha hh hq;have hrun1:h=true→∀w':World,(Instr.sliceAt 174 (.slice A l.length c) (some (.int .i64 ((a:Int)+1))) none none).run Tryz.prog w'=.ok (.slice Af mf.length cf) w':=fun he w'=>by
  have:=hrf w';rw [HQ.out,if_pos he,show ((a+1:Nat):Int)=(a:Int)+1 by omega] at this;exact this
 have hrun0:h=false→∀w':World,(Instr.sliceAt 174 (.slice A l.length c) (some (.int .i64 (a:Int))) none none).run Tryz.prog w'=.ok (.slice Af mf.length cf) w':=fun he w'=>by
  have:=hrf w';rw [HQ.out,if_neg (by rw [he];simp)] at this;exact this
 have HR1:=jH hrun1;have HR0:=jH hrun0;clear hrf hrun1 hrun0
 cases h with
 | true =>
   have hrun:=HR1.out rfl
   go_enter Tryz.func184,Tryz.ntmps184
   go_wp2_with (first
    | (go_at_call 214
       refine calls_named ?_;intro W1 hW1;obtain ⟨k0,k1,hs,hb⟩:=two_boxes w _ _ W1 hW1;clear hW1;refine (HAT.out W1 hb).mono ?_;rintro e w2 ⟨rfl,hb2⟩;have HK:=jH (And.intro (jK hb2 k0) (jK hb2 k1));have HB:=jH (bthen hb hb2);clear k0 k1 hs hb hb2)
    | (at_builtin;refine wpList_appendL eIt (by rfl) (by rfl) w2.heap.size [] mt (.slice (some ⟨w2.heap.size,0,none⟩) 0 0) _ (by rfl) (by rfl) (OwnL.lit0 _ _ _ _ rfl (Nat.le_refl _)) (HRT.out.below (balloc HB.out _)) (by have:=HLT.out;simp;omega) (by simp) ?_;intro out3 A3 c3 w3 hout3 hown3 hg3 _
       have hb3:jB w2 w3:=(balloc jR _).grown hg3 (by simp) (fun r hr=>by have hr':some w2.heap.size=some r:=hr;injection hr';omega);obtain ⟨a1,a2,a3⟩:=box_cells hb3 HK.out.1;obtain ⟨b1,b2,b3⟩:=box_cells hb3 HK.out.2;have HO3:=jH hown3;have HE3:=jH hout3;have HB3:=jH hb3;clear hout3 hown3 hg3 hb3)
    | (at_builtin;refine wpList_appendL eIt (by rfl) (by rfl) w2.heap.size out3 [{ x with key:=k }] _ _ (by rfl) (by rfl) (HO3.out.below (balloc jR _)) (RowIn.lit (n:=12) (f:=itC) w3 { x with key:=k } _ _ _ rfl rfl) (by have:=HLT.out;simp [HE3.out];omega) (by have:=HB3.out.size;simp;omega) ?_;intro out4 A4 c4 w4 hout4 hown4 hg4 _
       have hb4:jB w2 w4:=(balloc HB3.out _).trans (grown_own hg4 HO3.out (by have:=HB3.out.size;simp;omega));obtain ⟨a1,a2,a3⟩:=box_cells hb4 HK.out.1;have HO4:=jH hown4;have HE4:=jH hout4;have HB4:=jH hb4;clear hout4 hown4 hg4 hb4)
    | (go_at_call 183
       refine (HH.out w4 (bthen HB.out HB4.out)).mono ?_;rintro e w5 ⟨rfl,hb5⟩;have HB5:=jH (bthen HB4.out hb5);have HO5:=jH (HO4.out.below hb5);clear hb5)
    | (at_builtin;refine wpList_appendL eIt (by rfl) (by rfl) w2.heap.size out4 mf _ _ (by rfl) (by rfl) HO5.out (HRF.out.below (bthen HB.out HB5.out)) (by have:=HLT.out;simp [HE4.out,HE3.out];omega) HB5.out.size ?_;intro out6 A6 c6 w6 hout6 hown6 hg6 _
       have hb6:jB w2 w6:=HB5.out.trans (grown_own hg6 HO5.out HB5.out.size);have HO6:=jH hown6;have HE6:=jH hout6;have HB6:=jH hb6;clear hout6 hown6 hg6 hb6))
   go_ret
   have e:out6=withI l k x:=by rw [HE6.out,HE4.out,HE3.out,HW.out,HMT.out,HMF.out,List.nil_append]
   rw [←e];exact ⟨_,_,rfl,(RowG.own eIt HO6.out).imp (fun b hb=>Nat.le_trans HB.out.size hb),bthen HB.out HB6.out⟩
 | false =>
   have hrun:=HR0.out rfl
   go_enter Tryz.func184,Tryz.ntmps184
   go_wp2_with (first
    | (go_at_call 214
       refine calls_named ?_;intro W1 hW1;obtain ⟨k0,k1,hs,hb⟩:=two_boxes w _ _ W1 hW1;clear hW1;refine (HAT.out W1 hb).mono ?_;rintro e w2 ⟨rfl,hb2⟩;have HK:=jH (And.intro (jK hb2 k0) (jK hb2 k1));have HB:=jH (bthen hb hb2);clear k0 k1 hs hb hb2)
    | (at_builtin;refine wpList_appendL eIt (by rfl) (by rfl) w2.heap.size [] mt (.slice (some ⟨w2.heap.size,0,none⟩) 0 0) _ (by rfl) (by rfl) (OwnL.lit0 _ _ _ _ rfl (Nat.le_refl _)) (HRT.out.below (balloc HB.out _)) (by have:=HLT.out;simp;omega) (by simp) ?_;intro out3 A3 c3 w3 hout3 hown3 hg3 _
       have hb3:jB w2 w3:=(balloc jR _).grown hg3 (by simp) (fun r hr=>by have hr':some w2.heap.size=some r:=hr;injection hr';omega);obtain ⟨a1,a2,a3⟩:=box_cells hb3 HK.out.1;obtain ⟨b1,b2,b3⟩:=box_cells hb3 HK.out.2;have HO3:=jH hown3;have HE3:=jH hout3;have HB3:=jH hb3;clear hout3 hown3 hg3 hb3)
    | (at_builtin;refine wpList_appendL eIt (by rfl) (by rfl) w2.heap.size out3 [{ x with key:=k }] _ _ (by rfl) (by rfl) (HO3.out.below (balloc jR _)) (RowIn.lit (n:=12) (f:=itC) w3 { x with key:=k } _ _ _ rfl rfl) (by have:=HLT.out;simp [HE3.out];omega) (by have:=HB3.out.size;simp;omega) ?_;intro out4 A4 c4 w4 hout4 hown4 hg4 _
       have hb4:jB w2 w4:=(balloc HB3.out _).trans (grown_own hg4 HO3.out (by have:=HB3.out.size;simp;omega));obtain ⟨a1,a2,a3⟩:=box_cells hb4 HK.out.1;have HO4:=jH hown4;have HE4:=jH hout4;have HB4:=jH hb4;clear hout4 hown4 hg4 hb4)
    | (go_at_call 183
       refine (HH.out w4 (bthen HB.out HB4.out)).mono ?_;rintro e w5 ⟨rfl,hb5⟩;have HB5:=jH (bthen HB4.out hb5);have HO5:=jH (HO4.out.below hb5);clear hb5)
    | (at_builtin;refine wpList_appendL eIt (by rfl) (by rfl) w2.heap.size out4 mf _ _ (by rfl) (by rfl) HO5.out (HRF.out.below (bthen HB.out HB5.out)) (by have:=HLT.out;simp [HE4.out,HE3.out];omega) HB5.out.size ?_;intro out6 A6 c6 w6 hout6 hown6 hg6 _
       have hb6:jB w2 w6:=HB5.out.trans (grown_own hg6 HO5.out HB5.out.size);have HO6:=jH hown6;have HE6:=jH hout6;have HB6:=jH hb6;clear hout6 hown6 hg6 hb6))
   go_ret
   have e:out6=withI l k x:=by rw [HE6.out,HE4.out,HE3.out,HW.out,HMT.out,HMF.out,List.nil_append]
   rw [←e];exact ⟨_,_,rfl,(RowG.own eIt HO6.out).imp (fun b hb=>Nat.le_trans HB.out.size hb),bthen HB.out HB6.out⟩
end
end Go.Proofs.YtkcdhaallnhhmaaGreat
