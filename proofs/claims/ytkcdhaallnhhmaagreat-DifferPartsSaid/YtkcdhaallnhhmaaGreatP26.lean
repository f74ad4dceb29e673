/- Part 26 of the proof: FlL, FlG, FlH. -/
import Derived.Test.YtkcdhaallnhhmaaGreatP25
namespace Go.Proofs.YtkcdhaallnhhmaaGreat
set_option linter.unusedSimpArgs false
set_option linter.unusedVariables false
set_option linter.unusedSectionVars false
set_option maxRecDepth 100000
set_option maxHeartbeats 16000000
section
open Go.RowKit Go.Lib Go.Sort
theorem keyK_inj {s t:ByteArray} (hs:idS s=true) (ht:idS t=true) (h:keyK s=keyK t):s=t:=by
 unfold keyK at h;rw [if_pos hs,if_pos ht] at h;injection h with h1 h2
 have a:IsKey (hiN s.data.toList) (loN s.data.toList) s.data.toList:=⟨hs,rfl,rfl⟩;have b:IsKey (hiN s.data.toList) (loN s.data.toList) t.data.toList:=⟨ht,h1.symm,h2.symm⟩;exact ByteArray.ext (Array.toList_inj.1 (a.one b))
theorem findIt_none_iff {l:List Itm} {k:Ky} (h:findIt l k=none):∀p∈l,p.1≠k:=by
 intro p hp e;unfold findIt at h;rw [Option.map_eq_none_iff,List.find?_eq_none] at h;exact h p hp (by simpa using e)
theorem keys_mk (R:List Itm):keysI (R.map mkIt)=R.map (·.1):=by
 unfold keysI;rw [List.map_map];rfl
theorem hasP_iff {R:List Itm} (hs:SrtR R) (k:Ky):hasP R k=true ↔ k∈R.map (·.1):=by
 have h1:=hasP_abs (R.map mkIt) k;rw [mkIt_abs] at h1;have h2:=hasI_iff (l:=R.map mkIt) (by rw [keys_mk];exact hs) k;rw [←h1,keys_mk] at h2;exact h2
theorem hasP_find {R:List Itm} (hs:SrtR R) (k:Ky):hasP R k=(findIt R k).isSome:=by
 rw [Bool.eq_iff_iff,hasP_iff hs]
 constructor
 · intro h
   obtain ⟨p,hp,rfl⟩:=List.mem_map.1 h;rw [findIt_sorted hs (k:=p.1) (y:=p.2) hp];rfl
 · intro h
   obtain ⟨y,hy⟩:=Option.isSome_iff_exists.1 h;exact List.mem_map.2 ⟨_,findIt_mem hy,rfl⟩
theorem getP_find {R:List Itm} (hs:SrtR R) (k:Ky):getP R k=(findIt R k).getD nd0:=by
 cases hh:hasP R k with
 | true =>
   have h1:=hasP_abs (R.map mkIt) k;have h2:=getP_abs (R.map mkIt) k;rw [mkIt_abs] at h1 h2;have h3:=getL_mem (h1.symm.trans hh);rw [mkIt_abs,←h2] at h3;rw [findIt_sorted hs h3];rfl
 | false =>
   have h1:=hasP_find hs k;rw [hh] at h1;have h2:findIt R k=none:=by cases hf:findIt R k with|none=>rfl|some y=>rw [hf] at h1;cases h1
   rw [h2];unfold hasP at hh;unfold getP
   cases hx:R[atP R k]? with
   | none=>rfl
   | some x =>
     rw [hx] at hh;exact if_neg (of_decide_eq_false hh)
theorem mem_outP {R:List Itm} (hs:SrtR R) (k:Ky) (y:Nd) (q:Ky) (z:Nd):(q,z)∈outP R k y ↔ (q=k∧z=y)∨((q,z)∈R∧q≠k):=by
 have h1:=mem_outI (l:=R.map mkIt) (by rw [keys_mk];exact hs) k y q z;rw [←outP_abs,mkIt_abs] at h1;exact h1
theorem outP_sorted {R:List Itm} (hs:SrtR R) (k:Ky) (y:Nd):SrtR (outP R k y):=by
 have h1:=outI_sorted (l:=R.map mkIt) (by rw [keys_mk];exact hs) k y;rw [←outP_abs,mkIt_abs] at h1;exact h1
theorem find_outP {R:List Itm} (hs:SrtR R) (k:Ky) (y:Nd) (q:Ky):findIt (outP R k y) q=if q=k then some y else findIt R q:=by
 split
 · rename_i e
   rw [e];exact findIt_sorted (outP_sorted hs k y) ((mem_outP hs k y k y).2 (.inl ⟨rfl,rfl⟩))
 · rename_i e
   cases hf:findIt R q with
   | some z=>exact findIt_sorted (outP_sorted hs k y) ((mem_outP hs k y q z).2 (.inr ⟨findIt_mem hf,e⟩))
   | none =>
     refine findIt_none (fun p hp e2=>?_);obtain ⟨a,b⟩:=p;simp only at e2
     subst e2
     rcases (mem_outP hs k y a b).1 hp with ⟨h9,_⟩|⟨h9,_⟩
     · exact e h9
     · exact findIt_none_iff hf _ h9 rfl
theorem len_outP (R:List Itm) (k:Ky) (y:Nd):(outP R k y).length=if hasP R k=true then R.length else R.length+1:=by
 unfold outP;have hat:atP R k≤R.length:=by
  unfold atP;exact (List.takeWhile_sublist _).length_le
 cases hh:hasP R k with
 | true =>
   have:atP R k<R.length:=by
    unfold hasP at hh
    split at hh
    · cases hh
    · rename_i x hx
      exact (List.getElem?_eq_some_iff.1 hx).1
   simp
   omega
 | false =>
   simp
   omega
theorem find_all {c:Cfg} {wd:Wd} (h:HomeOk c wd) (hst:okSt c.st=true) (hl:(wd.st.length:Int)=c.st) (id:ByteArray):findIt (allW wd) (keyK id)=findIt (wd.st.getD (atW c id) []) (keyK id):=by
 obtain ⟨h1,h2⟩:=atW_lt (id:=id) hst hl;rw [List.getD_eq_getElem?_getD,List.getElem?_eq_getElem h1];exact load_home h (List.getElem?_eq_getElem h1) h2
theorem srt_at {c:Cfg} {es:List (SK × It)} {wd:Wd} (h:FlTells c es wd) (i:Nat):SrtR (wd.st.getD i []):=by
 rw [List.getD_eq_getElem?_getD]
 cases hx:wd.st[i]? with
 | none=>exact List.Pairwise.nil
 | some R=>exact h.srt R (List.mem_of_getElem? hx)
theorem FlTells.load {c:Cfg} {es:List (SK × It)} {wd:Wd} (h:FlTells c es wd) (s:SK) (hs:idS s.1=true):match findM es s with|none=>loadW wd s.1=none|some x=>∃y,loadW wd s.1=some y∧sameN x.nd y:=h.has.2 s hs
theorem FlTells.is {c:Cfg} {es:List (SK × It)} {wd:Wd} (h:FlTells c es wd) (s:SK) (hs:idS s.1=true):hasM es s=(loadW wd s.1).isSome:=by
 have h1:=h.load s hs
 cases hh:hasM es s with
 | false =>
   rw [findM_none hh] at h1;rw [h1];rfl
 | true =>
   obtain ⟨v,hv,_⟩:=findM_some hh;rw [hv] at h1;obtain ⟨y,hy,_⟩:=h1;rw [hy];rfl
theorem FlTells.here {c:Cfg} {es:List (SK × It)} {wd:Wd} (h:FlTells c es wd) (hst:okSt c.st=true) (s:SK) (hs:idS s.1=true) :
 hasP (wd.st.getD (atW c s.1) []) (keyK s.1)=hasM es s∧sameN (((findM es s).map (·.nd)).getD nd0) (getP (wd.st.getD (atW c s.1) []) (keyK s.1)):=by
 have hr:=srt_at h (atW c s.1);have hf:=find_all h.home hst h.lst s.1;have h1:=h.load s hs;have h2:=h.is s hs;unfold loadW at h1 h2;rw [hf] at h1 h2;refine ⟨(hasP_find hr _).trans h2.symm,?_⟩;rw [getP_find hr]
 cases hh:findM es s with
 | none =>
   rw [hh] at h1;simp only at h1
   rw [h1];exact sameN.refl _
 | some x =>
   rw [hh] at h1;obtain ⟨y,hy,hxy⟩:=h1;rw [hy];exact hxy
theorem FlTells.many {c:Cfg} {es:List (SK × It)} {wd:Wd} (h:FlTells c es wd) (hst:okSt c.st=true) (id:ByteArray) :
 (wd.st.getD (atW c id) []).length=(es.map (·.1)).countP fun s=>decide (routeI (keyK s.1).1 (keyK s.1).2 c.st=routeI (keyK id).1 (keyK id).2 c.st):=by
 obtain ⟨h1,h2⟩:=atW_lt (id:=id) hst h.lst;rw [List.getD_eq_getElem?_getD,List.getElem?_eq_getElem h1,h2];exact h.cnt _ _ (List.getElem?_eq_getElem h1)
theorem FlTells.put {c:Cfg} {es:List (SK × It)} {wd:Wd} (h:FlTells c es wd) (hst:okSt c.st=true) (s:SK) (hs:idS s.1=true) (x:It) (y:Nd) (hxy:sameN x.nd y) :
 FlTells c (putM es s x) { wd with st:=wd.st.set (atW c s.1) (outP (wd.st.getD (atW c s.1) []) (keyK s.1) y) }:=by
 obtain ⟨h1,h2⟩:=atW_lt (id:=s.1) hst h.lst;have hr:=srt_at h (atW c s.1);have hRm:wd.st.getD (atW c s.1) []∈wd.st:=by
  rw [List.getD_eq_getElem?_getD,List.getElem?_eq_getElem h1];exact List.getElem_mem h1
 have hRa:wd.st[atW c s.1]?=some (wd.st.getD (atW c s.1) []):=by rw [List.getD_eq_getElem?_getD,List.getElem?_eq_getElem h1];rfl
 have hhas:=(h.here hst s hs).1;generalize hR:wd.st.getD (atW c s.1) []=R at *;have hmem:∀p∈outP R (keyK s.1) y,p∈R∨p.1=keyK s.1:=fun p hp=>(outP_mem hp).imp id (fun e=>by rw [e])
 have hhome:HomeOk c { wd with st:=wd.st.set (atW c s.1) (outP R (keyK s.1) y) }:=h.home.set (fun p hp=>by
  rcases hmem p hp with h9|h9
  · exact h.home _ _ hRa p h9
  · rw [h9];exact h2)
 have hlst:((({ wd with st:=wd.st.set (atW c s.1) (outP R (keyK s.1) y) }:Wd).st.length:Nat):Int)=c.st:=by
  show (((wd.st.set (atW c s.1) (outP R (keyK s.1) y)).length:Nat):Int)=c.st
  rw [List.length_set];exact h.lst
 refine ⟨⟨fun p hp=>?_,fun t ht=>?_⟩,fun p hp=>?_,fun i Q hQ=>?_,fun Q hQ=>?_,hhome,hlst,nodup_putM h.nod s x⟩
 · have:p.1∈(putM es s x).map (·.1):=List.mem_map.2 ⟨p,hp,rfl⟩
   rw [keys_putM] at this;have h9:p.1∈es.map (·.1)∨p.1=s:=by
    split at this
    · exact .inl this
    · rcases List.mem_append.1 this with h|h
      · exact .inl h
      · exact .inr (List.mem_singleton.1 h)
   rcases h9 with h9|h9
   · obtain ⟨q,hq,e⟩:=List.mem_map.1 h9
     rw [←e];exact h.has.1 q hq
   · rw [h9];exact hs
 · have hq:=find_all hhome hst hlst t.1
   have hq0:=find_all h.home hst h.lst t.1;have hset:({ wd with st:=wd.st.set (atW c s.1) (outP R (keyK s.1) y) }:Wd).st.getD (atW c t.1) []=if atW c s.1=atW c t.1 then outP R (keyK s.1) y else wd.st.getD (atW c t.1) []:=by
    show (wd.st.set (atW c s.1) (outP R (keyK s.1) y)).getD (atW c t.1) []=_
    rw [List.getD_eq_getElem?_getD,List.getElem?_set]
    split
    · rfl
    · rw [List.getD_eq_getElem?_getD]
   rw [hset] at hq;have hkey:findIt (allW { wd with st:=wd.st.set (atW c s.1) (outP R (keyK s.1) y) }) (keyK t.1)=if t=s then some y else findIt (allW wd) (keyK t.1):=by
    rw [hq]
    by_cases e:t=s
    · subst e
      rw [if_pos rfl,if_pos rfl,find_outP hr,if_pos rfl]
    · have hk:keyK t.1≠keyK s.1:=fun e2=>e (Subtype.ext (keyK_inj ht hs e2))
      rw [if_neg e,hq0]
      split
      · rename_i e3
        rw [find_outP hr,if_neg hk,←e3,hR]
      · rfl
   rw [hkey,find_putM]
   by_cases e:t=s
   · rw [if_pos e,if_pos e]
     exact ⟨y,rfl,hxy⟩
   · rw [if_neg e,if_neg e]
     exact h.has.2 t ht
 · obtain ⟨Q,hQ,hp⟩:=List.mem_flatten.1 hp
   rcases List.mem_or_eq_of_mem_set hQ with hQ|rfl
   · exact h.keys p (List.mem_flatten.2 ⟨Q,hQ,hp⟩)
   · rcases hmem p hp with h9|h9
     · exact h.keys p (List.mem_flatten.2 ⟨R,hRm,h9⟩)
     · exact ⟨s,hs,h9.symm⟩
 · have hQ:(wd.st.set (atW c s.1) (outP R (keyK s.1) y))[i]?=some Q:=hQ
   rw [List.getElem?_set] at hQ;rw [keys_putM]
   split at hQ
   · rename_i e
     injection hQ with hQ
     subst hQ;rw [len_outP,hhas];have hc:=h.cnt _ _ hRa;rw [e] at hc h2
     cases hasM es s with
     | true =>
       simp only [if_true]
       exact hc
     | false =>
       simp only [Bool.false_eq_true,if_false]
       rw [List.countP_append,List.countP_singleton,if_pos (by simpa using h2),hc]
   · rename_i e
     have hc:=h.cnt i Q hQ
     cases hasM es s with
     | true =>
       simp only [if_true]
       exact hc
     | false =>
       simp only [Bool.false_eq_true,if_false]
       rw [List.countP_append,List.countP_singleton,if_neg (by simp only [decide_eq_true_eq];omega),hc,Nat.add_zero]
 · rcases List.mem_or_eq_of_mem_set hQ with hQ|rfl
   · exact h.srt Q hQ
   · exact outP_sorted hr _ _
def setF (x:Nd) (p:Pol):Nd:={ x with pol:=p,ruled:=true }
def trimF (cut:Int) (x:Nd):Nd:={ x with smp:=x.smp.drop (placeS x.smp cut) }
def fullF (c:Cfg) (es:List (SK × It)) (s:SK):Bool:=!hasM es s && decide (c.lo≤(((es.map (·.1)).countP fun t=>decide (routeI (keyK t.1).1 (keyK t.1).2 c.st=routeI (keyK s.1).1 (keyK s.1).2 c.st):Nat):Int))
theorem oneW_eq (c:Cfg) (rs rh:Nat) (wd:Wd) (id:ByteArray) (a:Act17):oneW c rs rh wd id a=({ wd with st:=wd.st.set (atW c id) (oneP c rs rh (wd.st.getD (atW c id) []) (keyK id) a).1 },(oneP c rs rh (wd.st.getD (atW c id) []) (keyK id) a).2):=rfl
theorem wd_same {wd:Wd} {i:Nat}:({ wd with st:=wd.st.set i (wd.st.getD i []) }:Wd)=wd:=by
 have:wd.st.set i (wd.st.getD i [])=wd.st:=by
  rw [List.getD_eq_getElem?_getD]
  apply List.ext_getElem?
  intro j;rw [List.getElem?_set]
  split
  · rename_i e
    subst e
    split
    · rename_i hl
      rw [List.getElem?_eq_getElem hl];rfl
    · rename_i hl
      rw [List.getElem?_eq_none (by omega)]
  · rfl
 cases wd
 simp only at this ⊢
 rw [this]
theorem FlTells.one {c:Cfg} {rs rh:Nat} {es:List (SK × It)} {wd:Wd} (h:FlTells c es wd) (hst:okSt c.st=true) (s:SK) (hs:idS s.1=true) (a:Act17) (h3:a.kind≠3)
    (he:(do17 rs rh (getP (wd.st.getD (atW c s.1) []) (keyK s.1)) a).2.1=0) :
    (fullF c es s=true→oneW c rs rh wd s.1 a=(wd,6)) ∧
    (fullF c es s=false→(oneW c rs rh wd s.1 a).2=0∧∀x:It,sameN x.nd (do17 rs rh (getP (wd.st.getD (atW c s.1) []) (keyK s.1)) a).1→FlTells c (putM es s x) (oneW c rs rh wd s.1 a).1):=by
  have hm:=h.many hst s.1;have hh:=(h.here hst s hs).1;rw [oneW_eq];unfold oneP fullF;rw [←hm,hh];dsimp only;rw [if_neg (not_not_intro he),if_neg (fun e=>h3 e.2)]
  constructor
  · intro hf
    rw [Bool.and_eq_true,Bool.not_eq_true',decide_eq_true_eq] at hf;rw [if_pos hf,wd_same]
  · intro hf
    have hn:¬(hasM es s=false∧c.lo≤(((wd.st.getD (atW c s.1) []).length:Nat):Int)):=fun e=>by
     rw [e.1,decide_eq_true e.2] at hf
     cases hf
    rw [if_neg hn];exact ⟨rfl,fun x hx=>h.put hst s hs x _ hx⟩
theorem sameN_trim {x y:Nd} (h:sameN x y) (cut:Int):sameN (trimF cut x) (trimR cut y):=by
 obtain ⟨a1,a2,a3,a4⟩:=h;unfold trimF trimR;rw [a1]
 split
 · rename_i e
   rw [e];exact ⟨by simp,a2,a3,a4⟩
 · exact ⟨rfl,a2,a3,a4⟩
theorem findIt_mapV (f:Nd→Nd) (l:List Itm) (k:Ky):findIt (l.map fun p=>(p.1,f p.2)) k=(findIt l k).map f:=by
 induction l with
 | nil=>rfl
 | cons p l ih =>
   unfold findIt at ih ⊢;rw [List.map_cons,List.find?_cons,List.find?_cons]
   by_cases e:p.1=k
   · simp [e]
   · simp only [e,decide_false]
     exact ih
theorem all_trim (wd:Wd) (cut:Int):allW (trimW wd cut)=(allW wd).map fun p=>(p.1,trimR cut p.2):=by
 unfold allW trimW;rw [List.map_flatten]
theorem FlTells.trim {c:Cfg} {es es':List (SK × It)} {wd:Wd} (h:FlTells c es wd) (cut:Int) (hk:es'.map (·.1)=es.map (·.1)) (hv:∀s x,findM es s=some x→∃x',findM es' s=some x'∧x'.nd=trimF cut x.nd):FlTells c es' (trimW wd cut):=by
 have hn:∀s,findM es s=none→findM es' s=none:=fun s hs=>by
  refine findM_none ?_
  cases hh:hasM es' s with
  | false=>rfl
  | true =>
    rw [hasM_iff,hk,←hasM_iff] at hh;obtain ⟨v,hv,_⟩:=findM_some hh;rw [hs] at hv
    cases hv
 refine ⟨⟨fun p hp=>?_,fun s hs=>?_⟩,fun p hp=>?_,fun i R hR=>?_,fun R hR=>?_,homeOk_trim h.home,?_,by rw [hk];exact h.nod⟩
 · have:p.1∈es.map (·.1):=by rw [←hk];exact List.mem_map.2 ⟨p,hp,rfl⟩
   obtain ⟨q,hq,e⟩:=List.mem_map.1 this;rw [←e];exact h.has.1 q hq
 · rw [all_trim,findIt_mapV]
   have h1:=h.has.2 s hs
   cases hf:findM es s with
   | none =>
     rw [hf] at h1;rw [hn s hf];simp only at h1 ⊢
     rw [h1];rfl
   | some x =>
     rw [hf] at h1;obtain ⟨x',hx',hnd⟩:=hv s x hf;rw [hx'];obtain ⟨y,hy,hxy⟩:=h1;refine ⟨trimR cut y,by rw [hy];rfl,?_⟩;rw [hnd];exact sameN_trim hxy cut
 · rw [all_trim] at hp
   obtain ⟨q,hq,rfl⟩:=List.mem_map.1 hp;exact h.keys q hq
 · have hR:(wd.st.map fun l=>l.map fun p=>(p.1,trimR cut p.2))[i]?=some R:=hR
   rw [List.getElem?_map] at hR;obtain ⟨Q,hQ,rfl⟩:=Option.map_eq_some_iff.1 hR;rw [List.length_map,hk];exact h.cnt i Q hQ
 · have hR:R∈wd.st.map fun l=>l.map fun p=>(p.1,trimR cut p.2):=hR
   obtain ⟨Q,hQ,rfl⟩:=List.mem_map.1 hR
   show (List.map _ _).Pairwise _
   rw [List.map_map];exact h.srt Q hQ
 · show (((wd.st.map fun l=>l.map fun p=>(p.1,trimR cut p.2)).length:Nat):Int)=c.st
   rw [List.length_map];exact h.lst
theorem FlTells.same {c:Cfg} {es:List (SK × It)} {wd wd':Wd} (h:FlTells c es wd) (hs:wd'.st=wd.st):FlTells c es wd':=by
 have ha:allW wd'=allW wd:=by unfold allW;rw [hs]
 refine ⟨by rw [ha];exact h.has,by rw [ha];exact h.keys,by rw [hs];exact h.cnt,by rw [hs];exact h.srt,?_,by rw [hs];exact h.lst,h.nod⟩;intro i R hR;rw [hs] at hR;exact h.home i R hR
theorem readF_law {c:Cfg} {es:List (SK × It)} {wd:Wd} (h:FlTells c es wd) (s:SK) (hs:idS s.1=true):readF (findM es s)=readW wd s.1:=by
 have h1:=h.load s hs;unfold readW readF
 cases hf:findM es s with
 | none =>
   rw [hf] at h1;rw [show loadW wd s.1=none from h1]
 | some x =>
   rw [hf] at h1;obtain ⟨y,hy,a1,a2,a3,a4⟩:=h1;rw [hy];simp only [a2]
   cases y.past.getLast? <;> rfl
theorem FlTells.it {c:Cfg} {rs rh n:Nat} {es:List (SK × It)} {wd:Wd} (h:FlTells c es wd) (hk:WdOk c rs rh n wd):∀p∈es,NdOk rs rh p.2.nd∧smpI p.2.nd.smp∧(∀s∈p.2.nd.smp,0≤s.1∧0≤s.2)∧p.2.nd.pol.ok:=by
 intro p hp;have hf:findM es p.1=some p.2:=by
  have hh:hasM es p.1=true:=(hasM_iff _ _).2 (List.mem_map.2 ⟨p,hp,rfl⟩);obtain ⟨v,hv,hm⟩:=findM_some hh;obtain ⟨i,hi⟩:=List.getElem?_of_mem hp;obtain ⟨j,hj⟩:=List.getElem?_of_mem hm;have e:i=j:=nodup_inj h.nod (x:=p.1) (by simp [hi]) (by simp [hj]);subst e;rw [hi] at hj;injection hj with hj
  rw [hv,hj]
 have h1:=h.has.2 p.1 (h.has.1 p hp);rw [hf] at h1;obtain ⟨y,hy,a1,a2,a3,a4⟩:=h1;have ho:=allW_it hk _ (findIt_mem hy);refine ⟨⟨by rw [a1];exact ho.nd.ris,by rw [a1];exact ho.nd.len,by rw [a2];exact ho.nd.past⟩,by rw [a1];exact ho.smp,by rw [a1];exact ho.val,by rw [a3];exact ho.pol⟩
end
section
open Go.RowKit Go.Lib
open Go.ChangeMaps (setBlock)
theorem fl_store {w:World} {L:Nat} {es:List (SK × It)} (h:MapIn skV ldV w L es) (s:SK) (x:It) :
 ∃o,(Instr.mapUpdate 94 (.map (some L)) (.string s.1) (ldV x)).run Tryz.prog w=.ok () (setBlock w L o)∧MapIn skV ldV (setBlock w L o) L (putM es s x) :=
 MapIn.store (V:=ldV) h keysSk Tryz.underlying94 s x
theorem FlMem.put {P:Nat→Prop} {w w1:World} {M:Nat} {c:Cfg} {wd:Wd} {d:FlatD} {s:SK} {x:It} {o:Obj} (h:FlMem P w M c wd d) (hb:jB w w1) (hm:MapIn skV ldV (setBlock w1 d.L o) d.L (putM d.es s x)) (hx:LoadIn P w1 x) :
 FlMem P (setBlock w1 d.L o) M c wd { d with es:=putM d.es s x }∧Upd w (setBlock w1 d.L o) [M,d.L] [M,d.L]:=by
 have h1:=h.below hb;have hk:∀b,b≠d.L→(setBlock w1 d.L o).heap[b]?=w1.heap[b]?:=fun b hb=>setBlock_other hb
 have hsz:w1.heap.size≤(setBlock w1 d.L o).heap.size:=by rw [setBlock_size];exact Nat.le_refl _
 have hkP:∀b,P b→b<w1.heap.size→(setBlock w1 d.L o).heap[b]?=w1.heap[b]?∧P b:=fun b hP _=>⟨hk b (h.off b hP).2,hP⟩
 refine ⟨⟨(hk M h.ne).trans h1.cell,hm,h.ne,h.off,fun p hp=>?_,h.len,h1.row.keepG hsz hkP,fun i y q hy hq=>⟨(h1.cut i y q hy hq).1,fun hf=>?_⟩⟩,hb.os,hb.tape,hb.output,?_,fun k hlt hn=>?_,fun k hk=>.inl hk⟩
 · rcases mem_putM hp with rfl|⟨h9,_⟩
   · exact hx.keepG hsz hkP
   · exact (h1.rows p h9).keepG hsz hkP
 · obtain ⟨h2,l,h3,h4,h5,h6,h7⟩:=(h1.cut i y q hy hq).2 hf
   exact ⟨h2,l,h3,h4,h5.block (hk l (h.off l h4).2),fun p hp=>(h6 p hp).keepG hsz hkP,h7⟩
 · rw [setBlock_size];exact hb.size
 · simp only [List.mem_cons,List.mem_nil_iff,or_false,not_or] at hn
   exact (hk k hn.2).trans (hb.block k hlt)
theorem FlMem.wd {P:Nat→Prop} {w:World} {M:Nat} {c:Cfg} {wd wd':Wd} {d:FlatD} (h:FlMem P w M c wd d) (hc:wd'.cuts=wd.cuts) (he:wd'.ep=wd.ep) (ho:wd'.over=wd.over):FlMem P w M c wd' d :=
 ⟨by rw [he,ho];exact h.cell,h.map,h.ne,h.off,h.rows,by rw [hc];exact h.len,h.row,by rw [hc];exact h.cut⟩
structure FW (P:Nat→Prop) (w:World) (M:Nat) (c:Cfg) (rs rh n:Nat) (wd:Wd) (d:FlatD):Prop where
 at_:FlatAt P w M c rs rh n wd d
 ok:WdOk c rs rh n wd
theorem FW.below {P:Nat→Prop} {w w':World} {M:Nat} {c:Cfg} {rs rh n:Nat} {wd:Wd} {d:FlatD} (h:FW P w M c rs rh n wd d) (hb:jB w w'):FW P w' M c rs rh n wd d:=⟨h.at_.below hb,h.ok⟩
theorem FlatAt.any {P:Nat→Prop} {w:World} {M:Nat} {c:Cfg} {rs rh n m:Nat} {wd:Wd} {d:FlatD} (h:FlatAt P w M c rs rh n wd d):FlatAt P w M c rs rh m wd d:=⟨h.toFlMem,h.tells⟩
theorem FW.mono {P:Nat→Prop} {w:World} {M:Nat} {c:Cfg} {rs rh n m:Nat} {wd:Wd} {d:FlatD} (h:FW P w M c rs rh n wd d) (hm:n≤m):FW P w M c rs rh m wd d:=⟨h.at_.any,h.ok.mono hm⟩
def FWSays (P:Nat→Prop) (w:World) (M:Nat) (c:Cfg) (rs rh n L:Nat) (v:Value) (wd:Wd) (e:Ending) (w':World):Prop:=∃d',e=.returned v∧FW P w' M c rs rh n wd d'∧d'.L=L∧Upd w w' [M,L] [M,L]
theorem FW.same {P:Nat→Prop} {w w':World} {M:Nat} {c:Cfg} {rs rh n m:Nat} {wd:Wd} {d:FlatD} {v:Value} (h:FW P w M c rs rh n wd d) (hm:n≤m) (hb:jB w w'):FWSays P w M c rs rh m d.L v wd (.returned v) w' :=
 ⟨d,rfl,(h.below hb).mono hm,rfl,Upd.of_below hb _⟩
theorem CfgOk.st {c:Cfg} {rs rh:Nat} (h:CfgOk c rs rh):okSt c.st=true:=by
 have hc:=h.cfg;unfold cfgB at hc;simp only [Bool.and_eq_true,decide_eq_true_eq] at hc
 exact hc.1
theorem FW.small {P:Nat→Prop} {w:World} {M:Nat} {c:Cfg} {rs rh n:Nat} {wd:Wd} {d:FlatD} (h:FW P w M c rs rh n wd d) (hc:CfgOk c rs rh):∀p∈d.es,p.2.nd.smp.length≤1000000∧p.2.nd.past.length≤1000000:=fun p hp=>by
 have h1:=(h.at_.tells.it h.ok p hp).1;have h2:=h1.len;have h3:=h1.past;have h4:=hc.room.r2;have h5:=hc.room.h2;omega
theorem RowG.ownQ {α:Type} {t e:TypeId} {n bytes:Nat} {z:Value} {f:α→List Value} (E:EltOf t e n bytes z f) {base:Nat} {w:World} {v:Value} {l:List α} {Q:Nat→Prop} (h:OwnL f e n base w v l) (hQ:∀r,v.ownBlock=some r→Q r):RowG Q n f w v l :=
 ⟨h.row E,fun b o m c hv _=>hQ b (by rw [hv];rfl)⟩
end
section
open Go.RowKit Go.Lib
theorem sum_addN {α:Type} (l:List α) (f g:α→Nat):(l.map fun i=>f i+g i).sum=(l.map f).sum+(l.map g).sum:=by
 induction l with
 | nil=>rfl
 | cons a l ih=>simp only [List.map_cons,List.sum_cons,ih];omega
theorem sum_zeroN {α:Type} (l:List α):(l.map fun _=>0).sum=0:=by
 induction l with
 | nil=>rfl
 | cons a l ih=>simp only [List.map_cons,List.sum_cons,ih]
theorem ind_sum (j:Nat):∀N,((List.range N).map fun i=>if j=i then 1 else 0).sum=if j<N then 1 else 0
  | 0=>rfl
  | N+1=>by
    rw [List.range_succ,List.map_append,List.sum_append,ind_sum j N];simp only [List.map_cons,List.map_nil,List.sum_cons,List.sum_nil,Nat.add_zero]
    by_cases h1:j<N
    · rw [if_pos h1,if_neg (by omega),if_pos (by omega)]
    · by_cases h2:j=N
      · rw [if_neg h1,if_pos h2,if_pos (by omega)]
      · rw [if_neg h1,if_neg h2,if_neg (by omega)]
theorem count_sum {α:Type} (f:α→Int) (N:Nat):∀ks:List α,(∀k∈ks,0≤f k∧f k<(N:Int))→((List.range N).map fun i:Nat=>ks.countP fun k=>decide (f k=(i:Int))).sum=ks.length
  | [],_=>by simp only [List.countP_nil,List.length_nil];exact sum_zeroN _
  | a::ks,h=>by
    have ih:=count_sum f N ks (fun k hk=>h k (List.mem_cons_of_mem _ hk));have ha:=h a (List.mem_cons_self ..);have e:(fun i:Nat=>(a::ks).countP fun k=>decide (f k=(i:Int)))=fun i:Nat=>(ks.countP fun k=>decide (f k=(i:Int)))+if (f a).toNat=i then 1 else 0:=by
     funext i
     rw [List.countP_cons]
     congr 1
     by_cases h1:f a=(i:Int)
     · rw [if_pos (by simpa using h1),if_pos (by omega)]
     · rw [if_neg (by simpa using h1),if_neg (by omega)]
    rw [e,sum_addN,ih,ind_sum,if_pos (by omega),List.length_cons]
theorem FlTells.len {c:Cfg} {es:List (SK × It)} {wd:Wd} (h:FlTells c es wd) (hst:okSt c.st=true):es.length=(allW wd).length:=by
 have h1:=count_sum (fun s:SK=>routeI (keyK s.1).1 (keyK s.1).2 c.st) wd.st.length (es.map (·.1)) (fun k _=>by
  have:=route_lt (hi:=(keyK k.1).1) (lo:=(keyK k.1).2) hst;have h2:=h.lst;omega)
 rw [List.length_map] at h1;rw [←h1];unfold allW;rw [List.length_flatten]
 congr 1
 apply List.ext_getElem?
 intro i;rw [List.getElem?_map,List.getElem?_map]
 by_cases hi:i<wd.st.length
 · rw [List.getElem?_eq_getElem (l:=wd.st) hi,List.getElem?_range hi]
   have:=h.cnt i _ (List.getElem?_eq_getElem hi);simp only [Option.map_some]
   rw [this]
 · rw [List.getElem?_eq_none (l:=wd.st) (by omega),List.getElem?_eq_none (by simp;omega)]
   rfl
section
variable {P:Program} {ops:Array Oper} {rest:List Oper} {o:Oper} {a:Act} {w:World} {Q:Exit→Act→World→Prop}
variable {α β:Type} [DecidableEq α] {K:α→Value} {V:β→Value} {b r:Nat} {es pre:List (α × β)} {cnt:Nat}
theorem wpList_rangeM (hg:o.guard=none) (m:Operand) (t:TypeId) (hop:o.op=Op.range t m) (k e:TypeId) (ht:P.underlying t=some (.map k e)) (hm:a.eval m=.map (some b)) (hown:MapIn K V w b es)
    (hK:∀w',RangeIn K V w' b w.heap.size es [] es.length→w.grownBy w' none→w'.heap.size=w.heap.size+1→wpList P ops Q rest (a.put o.dst (.pointer (some ⟨w.heap.size,0,none⟩))) w') :
    wpList P ops Q (o::rest) a w:=by
  refine wpList_plain hg fun K' hK'=>?_
  obtain ⟨w',hrun,r1,r2,r3⟩:=MapIn.range hown ht;unfold Oper.wp;simp [execOp,hop,hm,hrun,Result.andThen]
  exact hK' _ _ (hK w' r1 r2 r3)
theorem wpList_nextM (hg:o.guard=none) (it:Operand) (hop:o.op=Op.next it false) (inj:∀x y,K x=K y→x=y) (hit:a.eval it=.pointer (some ⟨r,0,none⟩)) (h:RangeIn K V w b r es pre cnt)
    (hDone:cnt=0→(pre.map (·.1)).Perm (es.map (·.1))→wpList P ops Q rest (a.put o.dst (.tuple #[.bool false])) w)
    (hMore:∀(p:α × β) (w':World) (cnt':Nat),p∈es→p.1∉pre.map (·.1)→RangeIn K V w' b r es (pre++[p]) cnt'→cnt'<cnt→w.grownBy w' (some r)→w'.heap.size=w.heap.size →
      (Instr.entry (.pointer (some ⟨r,0,none⟩))).run P w'=.ok (.tuple #[K p.1,V p.2]) w'→wpList P ops Q rest (a.put o.dst (.tuple #[.bool true,K p.1,V p.2])) w') :
    wpList P ops Q (o::rest) a w:=by
  refine wpList_plain hg fun K' hK'=>?_
  unfold Oper.wp
  rcases h.next (P:=P) inj o.type with ⟨h0,hl,hrun⟩|⟨p,w',cnt',h1,h2,hrun,hrg,hlt,hgr,hsz,hen⟩
  · simp [execOp,hop,hit,hrun,Result.andThen]
    exact hK' _ _ (hDone h0 hl)
  · simp [execOp,hop,hit,hrun,Result.andThen]
    exact hK' _ _ (hMore p w' cnt' h1 h2 hrg hlt hgr hsz hen)
end
theorem flFull_any {P:Nat→Prop} {w:World} {M:Nat} {c:Cfg} {rs rh n:Nat} {wd:Wd} {d:FlatD} (s:SK) (h:FlatAt P w M c rs rh n wd d) (hst:okSt c.st=true) (hlen:d.es.length≤1000000) :
 Calls Tryz.prog 114 #[.pointer (some ⟨M,0,none⟩),.string s.1] w (jP w (.bool (fullF c d.es s))):=by
 have hlk:=fun (W:World) (hW:jB w W)=>fl_look h.map s true (hW.block d.L h.map.lt)
 have CH:=jH (fun (W:World) (hW:jB w W) (t:SK)=>show Calls Tryz.prog 163 #[.pointer (some ⟨M,0,none⟩),.string t.1] W (jP W (.int .i64 (routeI (keyK t.1).1 (keyK t.1).2 c.st))) from
  flHome_any M c t.1 W ((hW.block M h.lt).trans h.cell) rfl hst t.2)
 have HC:=jH h.cell;have HM:=jH (fun (W:World) (hW:jB w W)=>h.map.below hW);have HL:=jH hlen;have rm0:∀U,jB w U→U.cell? ⟨M,4,none⟩=some (.map (some d.L)):=fun U hU=>(box_cells hU HC.out).1 4
 have rm1:∀U,jB w U→U.cell? ⟨M,2,none⟩=some (.int .i64 c.lo):=fun U hU=>(box_cells hU HC.out).1 2
 have HR0:=jH rm0;have HR1:=jH rm1;obtain ⟨x,hx⟩:∃x,x=(findM d.es s).getD it00:=⟨_,rfl⟩;rw [←hx] at hlk;unfold ldV ldC at hlk;simp only [↓reduceIte] at hlk
 unfold fullF;obtain ⟨q,hq⟩:∃q:SK→Bool,q=fun t=>decide (routeI (keyK t.1).1 (keyK t.1).2 c.st=routeI (keyK s.1).1 (keyK s.1).2 c.st):=⟨_,rfl⟩
 rw [←hq];have HQ:=jH hq;clear hq;have HLK:=jH hlk;clear h hst hlen hlk hx rm0 rm1
 cases hh:hasM d.es s
 · rw [hh] at HLK
   clear hh;simp only [Bool.not_false,Bool.true_and]
   have q0:=HLK.out w jR;have q1:=HR0.out w jR
   go_enter Tryz.func114,Tryz.ntmps114
   go_upto_region 5 with fail
   refine name_world ?_;intro W hW;have HB:=jH (show jB w W by rw [hW];exact balloc jR _);clear hW q0 q1;have q1:=HR0.out W HB.out;have hmp:=HM.out W HB.out
   go_wp2_with (first
    | (at_range;refine wpList_rangeM rfl _ 94 rfl 9 50 Tryz.underlying94 rfl hmp ?_;intro w0 hrg0 hg0 hs0)
    | go_in)
   clear q1 hmp
   go_frame
   go_loopw [7,8] (fun s7 _ wr=>∃(cnt:Nat) (pre:List (SK × It)),RangeIn skV ldV wr d.L W.heap.size d.es pre cnt∧pre.length+cnt≤d.es.length∧∃m:Nat,s7=.int .i64 (m:Nat)∧Hid (m=(pre.map (·.1)).countP q)∧jB w wr)
     (fun _ _ wr=>wr.rangeLeft d.L W.heap.size)
   case atStart =>
    exact ⟨_,[],hrg0,by simp,0,rfl,jH rfl,bthen HB.out (grown_below hg0 (Nat.le_refl _) (fun r e=>by cases e))⟩
   case round =>
    obtain ⟨cnt,pre,hrg,hcs,m,rfl,HMC,hbr⟩:=hrel;have HBR:=jH hbr;clear hbr
    go_upto_region 9 with (first
     | (at_next;refine wpList_nextM rfl _ rfl keysSk.inj rfl hrg ?_ (fun p w2 cnt2 hx hnew hrg2 hlt hg2 hs2 hen=>?_)
        rotate_left
        obtain ⟨t,y⟩:=p;have HRG2:=jH hrg2;have HB2:=jH (HBR.out.trans (grown_below hg2 (by have:=HBR.out.size;have:=HB.out.size;omega) (fun r e=>by cases e;exact HB.out.size)));have HME:=jH (show w2.rangeLeft d.L W.heap.size<wr.rangeLeft d.L W.heap.size by rw [hrg2.left_eq,hrg.left_eq];exact hlt);have HCS:=jH (show (pre++[(t,y)]).length+cnt2≤d.es.length by have:=hcs;have:=hlt;rw [List.length_append,List.length_singleton];omega)
        have HCL:=jH (show m≤d.es.length by rw [HMC.out];exact Nat.le_trans List.countP_le_length (by rw [List.length_map];omega));have HCQ:=jH (show ((pre++[(t,y)]).map (·.1)).countP q=m+(if q t=true then 1 else 0) by
         rw [List.map_append,List.countP_append,List.map_cons,List.map_nil,List.countP_singleton,HMC.out])
        simp only [skV] at hen
        unfold ldV ldC at hen;clear hrg2 hg2 hlt hx hnew
        rotate_left)
     | (go_at_call 163
        first
         | (refine (CH.out w3 HB3.out s).mono ?_
            rintro e w4 ⟨rfl,hb4⟩;have HB4:=jH (bthen HB3.out hb4);have HK4:=jH (bthen HK3.out hb4);clear hb4)
         | (refine (CH.out w2 HB2.out t).mono ?_
            rintro e w3 ⟨rfl,hb3⟩;have HB3:=jH (bthen HB2.out hb3);have HK3:=jH hb3;clear hb3 hen))
     | go_in)
    · intro hc0 hp
      have e9:m=(d.es.map (·.1)).countP q:=HMC.out.trans (hp.countP_eq q);have q2:=HR1.out wr HBR.out;have HE9:=jH e9;clear hp e9 hrg hrg0 hg0;go_wp2
      go_ret
      exact ⟨by rw [HE9.out];rfl,HBR.out⟩
    · rename_i heq
      have hq1:q t=true:=by rw [HQ.out];exact decide_eq_true (by simpa using heq)
      have hw:wrap64 ((m:Int)+1)=((m+1:Nat):Int):=by have:=HCL.out;have:=HL.out;unfold wrap64;omega
      have hrg4:=HRG2.out.kept (HK4.out.block _ (MapIn.lt HRG2.out.map_)) (HK4.out.block _ HRG2.out.lt);have hcq:=HCQ.out;rw [if_pos hq1] at hcq;have HRG4:=jH hrg4;have HCQ4:=jH hcq;have HWR:=jH hw;clear hrg hrg4 hcq heq hq1 hrg0 hg0 hw;go_wp2
      exact ⟨⟨cnt2,pre++[(t,y)],HRG4.out,HCS.out,m+1,by rw [HWR.out],jH HCQ4.out.symm,HB4.out⟩,by rw [HRG4.out.left_eq,←HRG2.out.left_eq];exact HME.out⟩
    · rename_i heq
      have hq1:¬q t=true:=by rw [HQ.out];simpa using heq
      have hrg4:=HRG2.out.kept (HK4.out.block _ (MapIn.lt HRG2.out.map_)) (HK4.out.block _ HRG2.out.lt);have hcq:=HCQ.out;rw [if_neg hq1] at hcq;exact ⟨⟨cnt2,pre++[(t,y)],hrg4,HCS.out,m,rfl,jH hcq.symm,HB4.out⟩,by rw [hrg4.left_eq,←HRG2.out.left_eq];exact HME.out⟩
 · rw [hh] at HLK
   clear hh;simp only [Bool.not_true,Bool.false_and]
   have q0:=HLK.out w jR;have q1:=HR0.out w jR
   go_enter Tryz.func114,Tryz.ntmps114
   go_wp2_with fail
   go_ret
   exact ⟨rfl,balloc jR _⟩
end
end Go.Proofs.YtkcdhaallnhhmaaGreat
