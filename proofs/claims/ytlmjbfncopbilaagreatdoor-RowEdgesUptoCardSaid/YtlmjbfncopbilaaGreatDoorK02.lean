/- Part 2 (merged by a program): lemmas of no further condition than each states. -/
import Derived.Test.YtlmjbfncopbilaaGreatDoorProg
import Derived.Deep.AppendLies
import Derived.Deep.OwnRows
import Derived.Maps.OwnSet
import Derived.Maps.OwnOps
import Derived.Maps.Views
import Derived.ArgAppend
import Derived.Deep.QuietTactic
import Derived.BigQuiet
import Derived.Deep.DeepCutAuto
import Derived.Deep.LoopGhost
import Derived.Great.Walk
import Derived.Great.Ranges
import Derived.Test.YtlmjbfncopbilaaGreatDoorK01
namespace Go.Proofs.YtlmjbfncopbilaaGreatDoor
set_option linter.unusedVariables false
set_option linter.unusedSimpArgs false
section
structure RSt.Ok (s:RSt) (i:Nat):Prop where
 run:∀k,k<s.out.length→s.out.getD k []≠[]∧(∀p∈s.out.getD k [],p<i)∧(s.out.getD k []).length≤i
 now0 : -1≤s.now
 now1:s.now<s.out.length
 last0 : -1≤s.last
 last1:s.last<i
 goes:∀x∈s.goes,x.2<s.out.length
 len:s.out.length≤i
theorem RSt.start_ok:RSt.Ok ⟨[],[],-1,-1⟩ 0 :=
 ⟨fun k hk=>absurd hk (by simp),by simp,by simp,by simp,by simp,fun x hx=>by simp at hx,by simp⟩
theorem RSt.Ok.find_lt {s:RSt} {i j k:Nat} (h:s.Ok i) (hf:s.find j=some k):k<s.out.length:=by
 unfold RSt.find at hf
 cases hx:s.goes.find? (fun x=>x.1==j) with
 | none=>rw [hx] at hf;cases hf
 | some y =>
   rw [hx] at hf
   cases hf
   exact h.goes y (List.mem_of_find?_eq_some hx)
theorem RSt.Ok.at_lt {s:RSt} {i j k:Nat} {ps:List Int} (h:s.Ok i) (hf:s.at ps j=some k):k<s.out.length:=by
 unfold RSt.at at hf
 cases hx:s.find j with
 | none=>rw [hx] at hf;cases hf
 | some y =>
   rw [hx] at hf
   simp only at hf
   split at hf
   ·cases hf
   ·cases hf;exact h.find_lt hx
def RSt.put (s:RSt) (k:Nat) (i:Nat) (last:Int) (goes:List (Nat × Nat)):RSt :=
 {out:=if k<s.out.length then s.out.set k (s.out.getD k []++[i]) else s.out++[[i]],goes:=goes,now:=k,last:=last }
theorem RSt.Ok.put {s:RSt} {i:Nat} (h:s.Ok i) (k:Nat) (hk:k≤s.out.length) (last:Int) (hl0 : -1≤last) (hl1:last<(i:Int)+1) (g:List (Nat × Nat)) (hg:∀x∈g,x∈s.goes∨x.2=k) :
 (s.put k i last g).Ok (i+1):=by
 unfold RSt.put
 by_cases hlt:k<s.out.length
 ·rw [if_pos hlt]
  have gd:∀j,(s.out.set k (s.out.getD k []++[i])).getD j []=if k=j then s.out.getD k []++[i] else s.out.getD j []:=fun j=>by
   rw [List.getD_eq_getElem?_getD,List.getElem?_set,List.getD_eq_getElem?_getD]
   by_cases e:k=j
   ·subst e;rw [if_pos rfl,if_pos hlt,if_pos rfl];rfl
   ·rw [if_neg e,if_neg e,List.getD_eq_getElem?_getD]
  refine⟨fun j hj=>?_,by simp only;omega,by simp only [List.length_set];omega,hl0,by simp only;omega,fun x hx=>?_,by simp only [List.length_set];have:=h.len;omega⟩
  ·simp only [List.length_set] at hj
   simp only
   rw [gd j]
   by_cases e:k=j
   ·rw [if_pos e]
    have hr:=h.run k hlt
    refine⟨by simp,fun p hp=>?_,by rw [List.length_append,List.length_singleton];omega⟩
    rw [List.mem_append,List.mem_singleton] at hp
    rcases hp with hp | hp
    ·have:=hr.2.1 p hp;omega
    ·omega
   ·rw [if_neg e]
    have hr:=h.run j hj
    exact⟨hr.1,fun p hp=>by have:=hr.2.1 p hp;omega,by omega⟩
  ·simp only [List.length_set]
   rcases hg x hx with hx | hx
   ·exact h.goes x hx
   ·omega
 ·rw [if_neg hlt]
  have hke:k=s.out.length:=by omega
  refine⟨fun j hj=>?_,by simp only;omega,by simp only [List.length_append,List.length_singleton];omega,hl0,by simp only;omega,fun x hx=>?_,by simp only [List.length_append,List.length_singleton];have:=h.len;omega⟩
  ·simp only [List.length_append,List.length_singleton] at hj
   simp only
   rcases Nat.lt_or_ge j s.out.length with h' | h'
   ·rw [List.getD_eq_getElem?_getD,List.getElem?_append_left h',←List.getD_eq_getElem?_getD]
    have hr:=h.run j h'
    exact⟨hr.1,fun p hp=>by have:=hr.2.1 p hp;omega,by omega⟩
   ·have hje:j=s.out.length:=by omega
    rw [List.getD_eq_getElem?_getD,hje,List.getElem?_append_right (Nat.le_refl _),Nat.sub_self]
    exact⟨by simp,fun p hp=>by simp at hp;omega,by simp⟩
  ·simp only [List.length_append,List.length_singleton]
   rcases hg x hx with hx | hx
   ·have:=h.goes x hx;omega
   ·omega
def RSt.pick (s:RSt) (ls ps:List Int) (i:Nat):Nat :=
 if s.now<0∨s.last<0∨ith ls s.last.toNat≠ith ls i then (s.at ps i).getD s.out.length else s.now.toNat
theorem RSt.Ok.pick_le {s:RSt} {i:Nat} (h:s.Ok i) (ls ps:List Int):s.pick ls ps i≤s.out.length:=by
 unfold RSt.pick
 split
 ·cases hx:s.at ps i with
  | none=>simp
  | some k=>have:=h.at_lt hx;simp;omega
 ·have:=h.now1;have:=h.now0;omega
def RSt.gone (s:RSt) (ds ps:List Int) (i k:Nat):List (Nat × Nat):=if opensB (lkn (ith ds i))=true∧0≤ith ps i then ((ith ps i).toNat,k)::s.goes else s.goes
theorem RSt.Ok.step_put {s:RSt} {i:Nat} (h:s.Ok i) (ds ls ps:List Int) :
 s.step ds ls ps i=if leftB (lkn (ith ds i))=true then s else s.put (s.pick ls ps i) i (if lkn (ith ds i)=10 then -1 else i) (s.gone ds ps i (s.pick ls ps i)):=by
 unfold RSt.step
 simp only
 by_cases hb:leftB (lkn (ith ds i))=true
 ·rw [if_pos hb,if_pos hb]
 ·rw [if_neg hb,if_neg hb]
  unfold RSt.put RSt.pick RSt.gone
  by_cases hf:s.now<0∨s.last<0∨ith ls s.last.toNat≠ith ls i
  ·have hfb:(decide (s.now<0)||decide (s.last<0)||decide (ith ls s.last.toNat≠ith ls i))=true:=by
    simp only [Bool.or_eq_true,decide_eq_true_eq]
    rcases hf with h1 | h1 | h1
    ·exact .inl (.inl h1)
    ·exact .inl (.inr h1)
    ·exact .inr h1
   rw [hfb,if_pos hf]
   simp only [if_true,true_and]
   cases hx:s.at ps i with
   | none =>
     simp only [Option.isNone_none,Option.getD_none,if_true]
     rw [if_neg (Nat.lt_irrefl _)]
     congr 1
     rw [List.getD_eq_getElem?_getD,List.getElem?_append_right (Nat.le_refl _),Nat.sub_self]
     rw [List.set_append_right _ _ (Nat.le_refl _),Nat.sub_self]
     rfl
   | some k =>
     have hk:=h.at_lt hx
     simp only [Option.isNone_some,Option.getD_some]
     rw [if_neg (by decide),if_pos hk]
  ·have hfb:(decide (s.now<0)||decide (s.last<0)||decide (ith ls s.last.toNat≠ith ls i))=false:=by
    rw [Bool.eq_false_iff]
    intro e
    simp only [Bool.or_eq_true,decide_eq_true_eq] at e
    exact hf (by
     rcases e with (e | e) | e
     ·exact .inl e
     ·exact .inr (.inl e)
     ·exact .inr (.inr e))
   rw [hfb,if_neg hf]
   have h1:=h.now1
   have h2:¬ s.now<0:=fun e=>hf (.inl e)
   have h3:s.now.toNat<s.out.length:=by have:=h.now0;omega
   simp only [Bool.false_eq_true,if_false,false_and]
   rw [if_pos h3]
theorem RSt.Ok.step {s:RSt} {i:Nat} (h:s.Ok i) (ds ls ps:List Int):(s.step ds ls ps i).Ok (i+1):=by
 rw [h.step_put ds ls ps]
 by_cases hb:leftB (lkn (ith ds i))=true
 ·rw [if_pos hb]
  refine⟨fun k hk=>?_,h.now0,h.now1,h.last0,by have:=h.last1;omega,h.goes,by have:=h.len;omega⟩
  have hr:=h.run k hk
  exact⟨hr.1,fun p hp=>by have:=hr.2.1 p hp;omega,by omega⟩
 ·rw [if_neg hb]
  refine h.put _ (h.pick_le ls ps) _ (by split <;> omega) (by split <;> omega) _ fun x hx=>?_
  unfold RSt.gone at hx
  split at hx
  ·rw [List.mem_cons] at hx
   rcases hx with rfl | hx
   ·exact .inr rfl
   ·exact .inl hx
  ·exact .inl hx
theorem runsF_ok (ds ls ps:List Int):∀(m i:Nat) (s:RSt),s.Ok i→(runsF ds ls ps m i s).Ok (i+m)
 | 0,i,s,h=>h
 | m+1,i,s,h=>by
   rw [runsF,show i+(m+1)=(i+1)+m by omega]
   exact runsF_ok ds ls ps m (i+1) _ (h.step ds ls ps)
theorem runsI_ok (ds ls:List Int):∀run∈runsI ds ls,run≠[]∧(∀p∈run,p<min ds.length ls.length)∧run.length≤min ds.length ls.length:=by
 intro run hrun
 have h:=runsF_ok (ds.take (min ds.length ls.length)) ls (pairsI (ds.take (min ds.length ls.length))) (min ds.length ls.length) 0 ⟨[],[],-1,-1⟩ RSt.start_ok
 rw [Nat.zero_add] at h
 unfold runsI at hrun
 obtain⟨k,hk,he⟩:=List.getElem_of_mem hrun
 have:=h.run k hk
 rw [List.getD_eq_getElem?_getD,List.getElem?_eq_getElem hk] at this
 simp only [Option.getD_some] at this
 rw [he] at this
 exact this
theorem pairsF_bd (ds:List Int) (n:Nat):∀(m i:Nat) (opn:List Nat) (out:List Int),i+m=n→(∀p∈opn,p<i)→(∀x∈out,-1≤x∧x<n∨x=0)→∀x∈pairsF ds m i opn out,-1≤x∧x<n∨x=0
 | 0,i,opn,out,him,ho,h=>h
 | m+1,i,opn,out,him,ho,h=>by
   have hset:∀(l:List Int) (j:Nat) (v:Int),(∀x∈l,-1≤x∧x<n∨x=0)→(-1≤v∧v<n)→∀x∈l.set j v,-1≤x∧x<n∨x=0:=fun l j v hl hv x hx=>by
    rcases List.mem_or_eq_of_mem_set hx with hx | rfl
    ·exact hl x hx
    ·exact .inl hv
   have h1:=hset out i (-1) h ⟨by omega,by omega⟩
   rw [pairsF]
   split
   ·refine pairsF_bd ds n m (i+1) _ _ (by omega) (fun p hp=>?_) h1
    rw [List.mem_append,List.mem_singleton] at hp
    rcases hp with hp | rfl
    ·have:=ho p hp;omega
    ·omega
   ·split
    ·exact pairsF_bd ds n m (i+1) [] _ (by omega) (fun p hp=>by simp at hp) h1
    ·split
     ·next hc =>
      have hmem:opn.getD (opn.length-1) 0∈opn:=by
       rw [List.getD_eq_getElem?_getD,List.getElem?_eq_getElem (by omega)];exact List.getElem_mem _
      have:=ho _ hmem
      exact pairsF_bd ds n m (i+1) _ _ (by omega) (fun p hp=>by have:=ho p (List.mem_of_mem_take hp);omega) (hset _ _ _ (hset _ _ _ h1 ⟨by omega,by omega⟩) ⟨by omega,by omega⟩)
     ·exact pairsF_bd ds n m (i+1) opn _ (by omega) (fun p hp=>by have:=ho p hp;omega) h1
theorem pairsI_bd (ds:List Int) (j:Nat) : -1≤ith (pairsI ds) j∧ith (pairsI ds) j≤ds.length:=by
 have h:=pairsF_bd ds ds.length ds.length 0 [] (List.replicate ds.length 0) (by omega) (fun p hp=>by simp at hp) (fun x hx=>.inr (List.eq_of_mem_replicate hx))
 unfold ith
 rw [List.getD_eq_getElem?_getD]
 cases hx:(pairsI ds)[j]? with
 | none=>simp
 | some x =>
   have:=h x (List.mem_of_getElem? hx)
   simp only [Option.getD_some]
   omega
end
section
theorem findTop_lt:∀(st:List (Nat × Int)) (r:Int) (n k:Nat),findTop st r n=some k→k<n∧(st.getD k (0,0)).2=r
 | st,r,0,k,h=>by simp [findTop] at h
 | st,r,n+1,k,h=>by
   unfold findTop at h
   split at h
   ·rename_i h1;cases h;exact⟨by omega,h1⟩
   ·have:=findTop_lt st r n k h;exact⟨by omega,this.2⟩
theorem getD_mem {α:Type} (l:List α) (d:α) (i:Nat) (h:i<l.length):l.getD i d∈l:=by
 rw [List.getD_eq_getElem?_getD,List.getElem?_eq_getElem h]
 exact List.getElem_mem h
theorem brkF_mem (rs ks:List Int):∀(m i:Nat) (st:List (Nat × Int)) (out:List (Nat × Nat)),(∀x∈st,x.1<i)→(∀p∈out,p.1<p.2∧p.2<i) →
 ∀p∈brkF rs ks m i st out,p.1<p.2∧p.2<i+m
 | 0,i,st,out,_,ho,p,hp=>by have:=ho p hp;omega
 | m+1,i,st,out,hs,ho,p,hp=>by
   have hs':∀x∈st,x.1<i+1:=fun x hx=>by have:=hs x hx;omega
   have ho':∀p∈out,p.1<p.2∧p.2<i+1:=fun p hp=>by have:=ho p hp;omega
   unfold brkF at hp
   split at hp
   ·have:=brkF_mem rs ks m (i+1) st out hs' ho' p hp;omega
   ·split at hp
    ·split at hp
     ·have:=ho p hp;omega
     ·have:=brkF_mem rs ks m (i+1) _ out (fun x hx=>by
       rw [List.mem_append,List.mem_singleton] at hx
       rcases hx with hx | hx
       ·exact hs' x hx
       ·subst hx;show i<i+1;omega) ho' p hp
      omega
    ·split at hp
     ·have:=brkF_mem rs ks m (i+1) st out hs' ho' p hp;omega
     ·rename_i k hk
      have hkl:=(findTop_lt st _ _ k hk).1
      have:=brkF_mem rs ks m (i+1) _ _ (fun x hx=>hs' x (List.mem_of_mem_take hx)) (fun q hq=>by
       rw [List.mem_append,List.mem_singleton] at hq
       rcases hq with hq | hq
       ·exact ho' q hq
       ·subst hq;have:=hs _ (getD_mem st (0,0) k hkl);exact⟨this,by show i<i+1;omega⟩) p hp
      omega
end
section
theorem pair_shut_all:∀k,k<30→(pairI (ith brL k)).2.1=true→pairI (pairI (ith brL k)).1=(ith brL k,false,true):=by decide +kernel
theorem pair_ok_mem {x:Int} (h:(pairI x).2.2=true):∃k,k<30∧ith brL k=x:=by
 apply Classical.byContradiction
 intro hn
 have:=pairI_miss x (fun j hj e=>hn ⟨j,hj,e⟩)
 rw [this] at h
 cases h
theorem pair_inv {x y:Int} (h:pairI x=(y,true,true)):pairI y=(x,false,true):=by
 obtain⟨k,hk,rfl⟩:=pair_ok_mem (x:=x) (by rw [h])
 have:=pair_shut_all k hk (by rw [h])
 rw [h] at this
 exact this
def Cross (p q:Nat × Nat):Prop:=p.1<q.1∧q.1<p.2∧p.2<q.2
def Apart (p q:Nat × Nat):Prop:=p.1≠q.1∧p.1≠q.2∧p.2≠q.1∧p.2≠q.2∧¬ Cross p q∧¬ Cross q p
def PairOk (rs ks:List Int) (n:Nat) (p:Nat × Nat):Prop :=
 p.1<p.2∧p.2<n∧ith ks p.1=13∧ith ks p.2=13∧pairI (ith rs p.1)=(ith rs p.2,true,true)∧pairI (ith rs p.2)=(ith rs p.1,false,true)
structure BInv (rs ks:List Int) (i:Nat) (st:List (Nat × Int)) (out:List (Nat × Nat)):Prop where
 pos:st.Pairwise (fun x y=>x.1<y.1)
 lt:∀x∈st,x.1<i
 ok:∀x∈st,ith ks x.1=13∧pairI (ith rs x.1)=(x.2,true,true)
 outOk:∀p∈out,PairOk rs ks i p
 apart:out.Pairwise Apart
 stApart:∀p∈out,∀x∈st,x.1≠p.1∧x.1≠p.2∧¬ (p.1<x.1∧x.1<p.2)
theorem PairOk.up {rs ks:List Int} {n m:Nat} {p:Nat × Nat} (h:PairOk rs ks n p) (hm:n≤m):PairOk rs ks m p:=⟨h.1,by have:=h.2.1;omega,h.2.2⟩
theorem BInv.next {rs ks:List Int} {i:Nat} {st:List (Nat × Int)} {out:List (Nat × Nat)} (h:BInv rs ks i st out):BInv rs ks (i+1) st out :=
 ⟨h.pos,fun x hx=>by have:=h.lt x hx;omega,h.ok,fun p hp=>(h.outOk p hp).up (by omega),h.apart,h.stApart⟩
theorem BInv.push {rs ks:List Int} {i:Nat} {st:List (Nat × Int)} {out:List (Nat × Nat)} (h:BInv rs ks i st out) (hk:ith ks i=13) (o:Int) (hp:pairI (ith rs i)=(o,true,true)):BInv rs ks (i+1) (st++[(i,o)]) out:=by
 refine⟨?_,fun x hx=>?_,fun x hx=>?_,h.next.outOk,h.apart,fun p hpm x hx=>?_⟩
 ·rw [List.pairwise_append]
  exact⟨h.pos,List.pairwise_singleton _ _,fun x hx y hy=>by rw [List.mem_singleton] at hy;subst hy;exact h.lt x hx⟩
 ·rw [List.mem_append,List.mem_singleton] at hx
  rcases hx with hx | rfl
  ·have:=h.lt x hx;omega
  ·show i<i+1;omega
 ·rw [List.mem_append,List.mem_singleton] at hx
  rcases hx with hx | rfl
  ·exact h.ok x hx
  ·exact⟨hk,hp⟩
 ·rw [List.mem_append,List.mem_singleton] at hx
  rcases hx with hx | rfl
  ·exact h.stApart p hpm x hx
  ·have:=(h.outOk p hpm).1
   have:=(h.outOk p hpm).2.1
   exact⟨by show i≠p.1;omega,by show i≠p.2;omega,by show ¬ (p.1<i∧i<p.2);omega⟩
theorem BInv.close {rs ks:List Int} {i k:Nat} {st:List (Nat × Int)} {out:List (Nat × Nat)} (h:BInv rs ks i st out) (hk:ith ks i=13) (hkl:k<st.length) (ho:(st.getD k (0,0)).2=ith rs i) :
 BInv rs ks (i+1) (st.take k) (out++[((st.getD k (0,0)).1,i)]):=by
 have hm:=getD_mem st (0,0) k hkl
 generalize hx:st.getD k (0,0)=x at hm ho
 have hxl:=h.lt x hm
 have hxo:=h.ok x hm
 have htk:∀y∈st.take k,y.1<x.1:=fun y hy=>by
  obtain⟨j,hj,hy'⟩:=List.mem_iff_getElem.1 hy
  rw [List.length_take] at hj
  rw [List.getElem_take] at hy'
  have h1:=(List.pairwise_iff_getElem.1 h.pos) j k (by omega) hkl (by omega)
  have h2:st[k]=x:=by rw [←hx,List.getD_eq_getElem?_getD,List.getElem?_eq_getElem hkl];rfl
  rw [hy',h2] at h1
  exact h1
 have hnew:PairOk rs ks (i+1) (x.1,i):=by
  refine⟨hxl,by show i<i+1;omega,hxo.1,hk,?_,?_⟩
  ·show pairI (ith rs x.1)=(ith rs i,true,true)
   rw [hxo.2,ho]
  ·have:=pair_inv hxo.2
   rw [ho] at this
   exact this
 refine⟨h.pos.sublist (List.take_sublist _ _),fun y hy=>by have:=h.lt y (List.mem_of_mem_take hy);omega,fun y hy=>h.ok y (List.mem_of_mem_take hy),fun p hp=>?_,?_,fun p hp y hy=>?_⟩
 ·rw [List.mem_append,List.mem_singleton] at hp
  rcases hp with hp | rfl
  ·exact h.next.outOk p hp
  ·exact hnew
 ·rw [List.pairwise_append]
  refine⟨h.apart,List.pairwise_singleton _ _,fun p hp q hq=>?_⟩
  rw [List.mem_singleton] at hq
  subst hq
  have h1:=(h.outOk p hp).1
  have h2:=(h.outOk p hp).2.1
  have h3:=h.stApart p hp x hm
  exact⟨fun e=>h3.1 e.symm,by show p.1≠i;omega,fun e=>h3.2.1 e.symm,by show p.2≠i;omega,fun hc=>h3.2.2 ⟨hc.1,hc.2.1⟩,fun hc=>by have:i<p.2:=hc.2.2;omega⟩
 ·have hyx:=htk y hy
  rw [List.mem_append,List.mem_singleton] at hp
  rcases hp with hp | rfl
  ·exact h.stApart p hp y (List.mem_of_mem_take hy)
  ·exact⟨by show y.1≠x.1;omega,by show y.1≠i;omega,by show ¬ (x.1<y.1∧y.1<i);omega⟩
structure Found (rs ks:List Int) (n:Nat) (out:List (Nat × Nat)):Prop where
 ok:∀p∈out,PairOk rs ks n p
 apart:out.Pairwise Apart
theorem Apart.symm {p q:Nat × Nat} (h:Apart p q):Apart q p:=⟨fun e=>h.1 e.symm,fun e=>h.2.2.1 e.symm,fun e=>h.2.1 e.symm,fun e=>h.2.2.2.1 e.symm,h.2.2.2.2.2,h.2.2.2.2.1⟩
theorem Found.perm {rs ks:List Int} {n:Nat} {l out:List (Nat × Nat)} (h:Found rs ks n out) (hp:l.Perm out):Found rs ks n l :=
 ⟨fun p hm=>h.ok p (hp.mem_iff.1 hm),(hp.pairwise_iff (fun h=>h.symm)).2 h.apart⟩
theorem brkF_found (rs ks:List Int):∀(m i:Nat) (st:List (Nat × Int)) (out:List (Nat × Nat)),BInv rs ks i st out→Found rs ks (i+m) (brkF rs ks m i st out)
 | 0,i,st,out,h=>⟨h.outOk,h.apart⟩
 | m+1,i,st,out,h=>by
   have e:i+1+m=i+(m+1):=by omega
   unfold brkF
   split
   ·have:=brkF_found rs ks m (i+1) st out h.next
    rwa [e] at this
   ·rename_i hno
    have h13:ith ks i=13:=Classical.byContradiction fun hh=>hno (.inr hh)
    have hok:(pairI (ith rs i)).2.2=true:=by
     cases hb:(pairI (ith rs i)).2.2
     ·exact absurd (.inl hb) hno
     ·rfl
    split
    ·rename_i hop
     split
     ·exact⟨fun p hp=>(h.outOk p hp).up (by omega),h.apart⟩
     ·have hp:pairI (ith rs i)=((pairI (ith rs i)).1,true,true):=by
       rcases hq:pairI (ith rs i) with ⟨a,b,c⟩
       rw [hq] at hop hok
       simp only at hop hok
       rw [hop,hok]
      have:=brkF_found rs ks m (i+1) _ out (h.push h13 _ hp)
      rwa [e] at this
    ·split
     ·have:=brkF_found rs ks m (i+1) st out h.next
      rwa [e] at this
     ·rename_i k hk
      have hf:=findTop_lt st _ _ k hk
      have:=brkF_found rs ks m (i+1) _ _ (h.close h13 hf.1 hf.2)
      rwa [e] at this
theorem brkF_all (rs ks:List Int) (n:Nat):Found rs ks n (brkF rs ks n 0 [] []):=by
 have:=brkF_found rs ks n 0 [] [] ⟨.nil,by simp,by simp,by simp,.nil,by simp⟩
 rwa [Nat.zero_add] at this
end
section
open Go.RowKit
def RowAt (w:World) (R t N:Nat) (xs:List Value):Prop:=∃cur,w.heap[R]? = some (.cells cur t (0,0))∧cur.size=N∧cur.toList.take xs.length=xs∧xs.length≤N
theorem RowAt.lt {w:World} {R t N:Nat} {xs:List Value} (h:RowAt w R t N xs):R<w.heap.size:=by
 obtain⟨cur,hg,_⟩:=h
 exact (Array.getElem?_eq_some_iff.1 hg).1
theorem RowAt.kept {w w':World} {R t N:Nat} {xs:List Value} (h:RowAt w R t N xs) (hb:w'.heap[R]? = w.heap[R]?):RowAt w' R t N xs:=by
 obtain⟨cur,hg,r⟩:=h
 exact⟨cur,hb.trans hg,r⟩
theorem RowAt.cell {w:World} {R t N:Nat} {xs:List Value} (h:RowAt w R t N xs) (i:Nat) (v:Value) (hi:xs[i]? = some v):w.cell? ⟨R,i,none⟩=some v:=by
 obtain⟨cur,hg,hN,ht,_⟩:=h
 have:cur[i]? = some v:=by
  rw [←ht,List.getElem?_take] at hi
  split at hi
  ·simpa using hi
  ·cases hi
 simp [World.cell?,hg,this]
theorem RowAt.take {w:World} {R t N:Nat} {xs:List Value} (h:RowAt w R t N xs) (m:Nat):RowAt w R t N (xs.take m):=by
 obtain⟨cur,hg,hN,ht,hle⟩:=h
 refine⟨cur,hg,hN,?_,by rw [List.length_take];omega⟩
 rw [List.length_take]
 by_cases hm:m≤xs.length
 ·rw [Nat.min_eq_left hm,←ht,List.take_take,Nat.min_eq_left hm]
 ·rw [Nat.min_eq_right (by omega),ht,List.take_of_length_le (by omega)]
theorem run_append_row {P:Program} (w:World) (t ty e:TypeId) (i:TypeInfo) (size:Nat) (ht:P.underlying t=some (.slice e)) (hi:P.info? e=some i) (hs:i.size=size)
 (R tb N k cap:Nat) (xs:List Value) (hR:RowAt w R tb N xs) (hx:xs.length=k*size)
 (a:Addr) (m c:Nat) (news:List Value) (hl:news.length=m*size) (hnews:∀j u,news[j]? = some u→w.cell? (a.add j)=some u) (h1:∀u∈news,u.oneCell'=true)
 (hroom:k+m≤cap) (hfit:(k+m)*size≤N) :
 ∃w',(Builtin.append_ #[t,t] ty #[.slice (some ⟨R,0,none⟩) k cap,.slice (some a) m c]).run P w=.ok (.slice (some ⟨R,0,none⟩) (k+m) cap) w' ∧
   RowAt w' R tb N (xs++news)∧w.grownBy w' (some R):=by
 subst hs
 obtain⟨cur,hg,hN,htake,hle⟩:=hR
 have hf:=run_firstCells_some (P:=P) w i.size m a m c news hl hnews
 have hfit':k*i.size+news.length≤cur.size:=by rw [hN,hl];rw [Nat.add_mul] at hfit;exact hfit
 have hst:=run_storeCells_at P R (k*i.size) tb news 0 cur w hg (by simpa using hfit') h1
 simp only [Nat.add_zero] at hst
 refine⟨_,by simp [Builtin.append_,run_underlying ht,sizeOf,typeInfo,hi,Builtin.lenOf,hroom,hf,Addr.add_lit,hst];rfl,?_,?_⟩
 ·have hcl:cur.toList.length=N:=by simpa using hN
  rw [hx] at htake
  rw [hx] at hle
  rw [Nat.add_mul,←hl] at hfit
  refine⟨_,setRow_heap w R cur _ tb (0,0) hg,?_,?_,?_⟩
  ·simp [hN];omega
  ·rw [htake]
   rw [←List.append_assoc,List.take_left]
  ·simp [hx];omega
 ·refine⟨rfl,rfl,rfl,by simp [World.setRow],fun q hq hne=>?_⟩
  simp only [World.setRow,Array.getElem?_modify]
  rw [if_neg (fun e=>hne (by rw [e]))]
theorem wpList_append_row {P:Program} (w:World) {ops:Array Oper} {rest:List Oper} {o:Oper} {a:Act} {Q:Exit→Act→World→Prop}
 (hg:o.guard=none) (s x:Operand) (t:TypeId) (hop:o.op=Op.call { callee:=Callee.builtin Builtin.append,args:=#[s,x],argTypes:=#[t,t] })
 (e:TypeId) (i:TypeInfo) (size:Nat) (ht:P.underlying t=some (.slice e)) (hi:P.info? e=some i) (hsz:i.size=size)
 (R tb N k cap:Nat) (xs:List Value) (hs:a.eval s=.slice (some ⟨R,0,none⟩) k cap) (hR:RowAt w R tb N xs) (hxl:xs.length=k*size)
 (ad:Addr) (m c:Nat) (news:List Value) (hx:a.eval x=.slice (some ad) m c) (hn:news.length=m*size)
 (hc:∀j u,news[j]? = some u→w.cell? (ad.add j)=some u) (h1c:∀u∈news,u.oneCell'=true) (b1:k+m≤cap) (b2:(k+m)*size≤N)
 (hK:∀w',RowAt w' R tb N (xs++news)→w.grownBy w' (some R)→wpList P ops Q rest (a.put o.dst (.slice (some ⟨R,0,none⟩) (k+m) cap)) w') :
 wpList P ops Q (o::rest) a w:=by
 refine wpList_plain hg fun K hK'=>?_
 obtain⟨w',hrun,r1,r2⟩:=run_append_row (P:=P) w t o.type e i size ht hi hsz R tb N k cap xs hR hxl ad m c news hn hc h1c b1 b2
 unfold Oper.wp
 simp [execOp,hop,resolve,invoke,builtin,hs,hx,hrun,Result.andThen]
 exact hK' _ _ (hK w' r1 r2)
theorem run_append_empty {P:Program} {w:World} (base:Nat) (t ty e:TypeId) (i:TypeInfo) (size:Nat) (ht:P.underlying t=some (.slice e)) (hi:P.info? e=some i)
 (v:Value) (n:Nat) (xs:List Value) (hown:w.ownsRow base e size v n xs) (ao:Option Addr) (c:Nat) :
 (Builtin.append_ #[t,t] ty #[v,.slice ao 0 c]).run P w=.ok v w:=by
 have hf:(Builtin.firstCells i.size 0 (.slice ao 0 c)).run P w=.ok #[] w:=by
  cases ao with
  | none=>simp [Builtin.firstCells]
  | some a=>exact run_firstCells_some (P:=P) w i.size 0 a 0 c [] (by simp) (by simp)
 rcases hown.2 with ⟨rfl,rfl⟩ | ⟨g,cap,cur,rfl,_,_,hnc,_⟩
 ·simp [Builtin.append_,run_underlying ht,sizeOf,typeInfo,hi,Builtin.lenOf,hf]
 ·simp [Builtin.append_,run_underlying ht,sizeOf,typeInfo,hi,Builtin.lenOf,hf,hnc,storeCells]
theorem wpList_append_src {P:Program} (w:World) {ops:Array Oper} {rest:List Oper} {o:Oper} {a:Act} {Q:Exit→Act→World→Prop} (hgd:o.guard=none) (s x:Operand) (t:TypeId)
 (ho:o.op=.call { callee:=.builtin .append,args:=#[s,x],argTypes:=#[t,t] })
 (base:Nat) (e:TypeId) (i:TypeInfo) (z:Value) (size bytes:Nat) (ht:P.underlying t=some (.slice e)) (hi:P.info? e=some i) (hz:i.zero=some z)
 (hsize:i.size=size) (hby:i.bytes=bytes) (hzs:z.cells.size=size) (hsz:0<size)
 (v:Value) (n:Nat) (xs:List Value) (hs:a.eval s=v) (hown:w.ownsRow base e size v n xs)
 (ao:Option Addr) (m c:Nat) (news:List Value) (hx:a.eval x=.slice ao m c) (hl:news.length=m*size) (hsrc:m=0∨∃ad,ao=some ad∧∀j u,news[j]? = some u→w.cell? (ad.add j)=some u)
 (h1:∀u∈news,u.oneCell'=true)
 (h63:n+m≤maxLen) (hbytes:(n+m)*bytes≤140737488355328) (hbase:base≤w.heap.size)
 (h:∀v' w',w'.ownsRow base e size v' (n+m) (xs++news)→w.grownBy w' v.ownBlock→wpList P ops Q rest (a.put o.dst v') w'):wpList P ops Q (o::rest) a w:=by
 rcases hsrc with rfl | ⟨ad,rfl,hc⟩
 ·obtain rfl:news=[]:=by simpa using hl
  refine wpList_plain hgd fun K hK=>?_
  have hrun:=run_append_empty (P:=P) (w:=w) base t o.type e i size ht hi v n xs hown ao c
  unfold Oper.wp
  simp [execOp,ho,resolve,invoke,builtin,hs,hx,hrun,Result.andThen]
  exact hK _ _ (h v w (by simpa using hown) (World.grownBy.refl _ _))
 ·exact wpList_append_own w hgd s x t ho base e i z size bytes ht hi hz hsize hby hzs hsz v n xs hs hown ad m c news hx hl hc h1 h63 hbytes hbase fun v' w' h2 h3 _=>h v' w' h2 h3
def OutAt (k:IntKind) (e:Nat) (w:World) (base:Nat) (ao:Option Addr) (cap:Nat) (out:List Int):Prop :=
 w.ownsRow base e 1 (.slice ao out.length cap) out.length (out.map (Value.int k))
theorem ith_get {l:List Int} {i:Nat} (h:i<l.length):l[i]? = some (ith l i):=by
 rw [ith,List.getD_eq_getElem?_getD,List.getElem?_eq_getElem h];rfl
theorem ith_set (l:List Int) (i j:Nat) (v:Int) (h:i<l.length):ith (l.set i v) j=if i=j then v else ith l j:=by
 unfold ith
 rw [List.getD_eq_getElem?_getD,List.getElem?_set,List.getD_eq_getElem?_getD]
 by_cases e:i=j
 ·subst e;simp [h]
 ·simp [e]
theorem OutAt.of {k:IntKind} {e base n:Nat} {w:World} {v:Value} {out:List Int} (h:w.ownsRow base e 1 v n (out.map (Value.int k))) (hn:out.length=n) :
 ∃ao cap,v=.slice ao n cap∧OutAt k e w base ao cap out:=by
 subst hn
 rcases h.2 with ⟨h1,h0⟩ | ⟨g,cap,cur,h1,_⟩
 ·exact⟨none,0,by rw [h1,h0],by unfold OutAt;rw [h0,←h1];rw [h0] at h;exact h⟩
 ·exact⟨_,cap,h1,by unfold OutAt;rw [←h1];exact h⟩
theorem OutAt.at {k:IntKind} {e base cap:Nat} {w:World} {ao:Option Addr} {out:List Int} (h:OutAt k e w base ao cap out) (i:Nat) (hi:i<out.length) :
 ∃G,ao=some ⟨G,0,none⟩∧base≤G∧G<w.heap.size∧w.cell? ⟨G,i,none⟩=some (.int k (ith out i))∧w.frozen? ⟨G,i,none⟩=false∧out.length≤cap∧cap≤maxLen:=by
 obtain⟨_,h2⟩:=h
 rcases h2 with ⟨h1,h0⟩ | ⟨g,cap',cur,h1,hb,hg,hc,hm,hs,ht⟩
 ·omega
 ·cases h1
  have hx:cur[i]? = some (.int k (ith out i)):=by
   have:(cur.toList.take (out.length*1))[i]? = (out.map (Value.int k))[i]?:=by rw [ht]
   rw [List.getElem?_take,if_pos (by omega),List.getElem?_map,ith_get hi] at this
   simpa using this
  exact⟨g,rfl,hb,(Array.getElem?_eq_some_iff.1 hg).1,by simp [World.cell?,hg,hx],by simp [World.frozen?,hg],hc,hm⟩
theorem OutAt.set {k:IntKind} {e base cap G:Nat} {w:World} {out:List Int} (h:OutAt k e w base (some ⟨G,0,none⟩) cap out) (i:Nat) (v:Int) :
 OutAt k e (w.setCell ⟨G,i,none⟩ (.int k v)) base (some ⟨G,0,none⟩) cap (out.set i v):=by
 have:=(World.ownsRow.stored h i (.int k v)).1
 unfold OutAt
 rw [List.length_set,List.map_set]
 exact this
theorem OutAt.keep {k:IntKind} {e base cap:Nat} {w w':World} {ao:Option Addr} {out:List Int} (h:OutAt k e w base ao cap out) (hb:Below w.heap.size w w'):OutAt k e w' base ao cap out :=
 World.ownsRow.kept h (row:=none) ⟨hb.os,hb.tape,hb.output,hb.size,fun q hq _=>hb.block q hq⟩ (by cases (Value.slice ao out.length cap).ownBlock <;> simp)
theorem OutAt.rd {k:IntKind} {e base cap:Nat} {w:World} {ao:Option Addr} {out:List Int} (h:OutAt k e w base ao cap out):Rd k w ao out:=by
 by_cases h0:out=[]
 ·exact .inl h0
 ·have hl:0<out.length:=List.length_pos_iff.2 h0
  obtain⟨G,hG,_,hlt,_⟩:=h.at 0 hl
  refine .inr ⟨G,0,hG,hlt,fun i hi=>?_⟩
  obtain⟨G',hG',_,_,hc,_⟩:=h.at i hi
  rw [hG] at hG'
  cases hG'
  rw [Nat.zero_add];exact hc
theorem OutAt.lt {k:IntKind} {e base cap G:Nat} {w:World} {out:List Int} (h:OutAt k e w base (some ⟨G,0,none⟩) cap out):base≤G∧G<w.heap.size :=
 World.ownsRow.lt h G rfl
end
section
open Go.RowKit
def pcell (x:Nat × Nat):List Value:=[.int .i64 x.1,.int .i64 x.2]
theorem flat_len2 {α:Type} (l:List α) (f:α→List Value) (hf:∀x,(f x).length=2):(l.flatMap f).length=l.length*2:=by
 induction l with
 | nil=>rfl
 | cons x l ih=>rw [List.flatMap_cons,List.length_append,hf,ih,List.length_cons];omega
theorem flat_get2 {α:Type} (l:List α) (d:α) (f:α→List Value) (g h:α→Value) (hf:∀x,f x=[g x,h x]) (i:Nat) (hi:i<l.length) :
 (l.flatMap f)[i*2]? = some (g (l.getD i d))∧(l.flatMap f)[i*2+1]? = some (h (l.getD i d)):=by
 induction l generalizing i with
 | nil=>simp at hi
 | cons x l ih =>
   rw [List.flatMap_cons,hf x]
   cases i with
   | zero=>exact⟨rfl,rfl⟩
   | succ i =>
     have:=ih i (by simpa using hi)
     rw [show (i+1)*2=i*2+1+1 by omega]
     exact this
def ocell (x:Nat × Int):List Value:=[.int .i64 x.1,.int .i32 x.2]
theorem ownsRow_base {w:World} {base base' e size n:Nat} {v:Value} {xs:List Value} (h:w.ownsRow base e size v n xs) (hb:base'≤base):w.ownsRow base' e size v n xs:=by
 obtain⟨h1,h2⟩:=h
 refine⟨h1,?_⟩
 rcases h2 with h2 | ⟨g,cap,cur,a,b,c⟩
 ·exact .inl h2
 ·exact .inr ⟨g,cap,cur,a,Nat.le_trans hb b,c⟩
theorem Tryz.info_open:(Tryz.prog.info? 297).map (fun i=>(i.zero,i.size,i.bytes))=some (some (.agg #[.int .i64 0,.int .i32 0]),2,16):=by kernel_rfl
theorem Tryz.info_two:(Tryz.prog.info? 96).map (fun i=>(i.zero,i.size,i.bytes))=some (some (.agg #[.int .i64 0,.int .i64 0]),2,16):=by kernel_rfl
theorem ownsRow_drewN {w:World} {base e size n:Nat} {v:Value} {xs:List Value} (h:w.ownsRow base e size v n xs) (q:Nat):(w.drewN q).ownsRow base e size v n xs:=h
theorem flat_take2 {α:Type} (l:List α) (f:α→List Value) (hf:∀x,(f x).length=2) (m:Nat):(l.take m).flatMap f=(l.flatMap f).take (m*2):=by
 induction l generalizing m with
 | nil=>simp
 | cons x l ih =>
   cases m with
   | zero=>simp
   | succ m =>
     have h2:(f x).length=2:=hf x
     rw [List.take_succ_cons,List.flatMap_cons,List.flatMap_cons,ih,List.take_append,h2,List.take_of_length_le (l:=f x) (by omega),show (m+1)*2-2=m*2 by omega]
def PairsAt (w:World) (base:Nat) (pa:Option Addr) (cap:Nat) (l:List (Nat × Nat)):Prop:=w.ownsRow base 96 2 (.slice pa l.length cap) l.length (l.flatMap pcell)
theorem PairsAt.of {base:Nat} {w:World} {v:Value} {l:List (Nat × Nat)} (h:w.ownsRow base 96 2 v l.length (l.flatMap pcell)):∃pa cap,v=.slice pa l.length cap∧PairsAt w base pa cap l:=by
 rcases h.2 with ⟨h1,h0⟩ | ⟨g,cap,cur,h1,_⟩
 ·exact⟨none,0,by rw [h1,h0],by unfold PairsAt;rw [h0,←h1];rw [h0] at h;exact h⟩
 ·exact⟨_,cap,h1,by unfold PairsAt;rw [←h1];exact h⟩
theorem PairsAt.at {base cap:Nat} {w:World} {pa:Option Addr} {l:List (Nat × Nat)} (h:PairsAt w base pa cap l) (i:Nat) (hi:i<l.length) :
 ∃G,pa=some ⟨G,0,none⟩∧base≤G∧G<w.heap.size∧w.cell? ⟨G,i*2,none⟩=some (.int .i64 (l.getD i (0,0)).1)∧w.cell? ⟨G,i*2+1,none⟩=some (.int .i64 (l.getD i (0,0)).2):=by
 have hg:=flat_get2 l (0,0) pcell _ _ (fun _=>rfl) i hi
 have h':=h
 obtain⟨_,h2⟩:=h
 rcases h2 with ⟨h1,h0⟩ | ⟨g,cap',cur,h1,hb,hh,hc,hm,hs,ht⟩
 ·omega
 ·cases h1
  refine⟨g,rfl,hb,(Array.getElem?_eq_some_iff.1 hh).1,?_,?_⟩
  ·rw [World.ownsRow.cellAt h' (i*2) (by omega)];exact hg.1
  ·rw [World.ownsRow.cellAt h' (i*2+1) (by omega)];exact hg.2
theorem PairsAt.keep {base cap:Nat} {w w':World} {pa:Option Addr} {l:List (Nat × Nat)} (h:PairsAt w base pa cap l) (hb:Below w.heap.size w w'):PairsAt w' base pa cap l :=
 World.ownsRow.kept h (row:=none) ⟨hb.os,hb.tape,hb.output,hb.size,fun q hq _=>hb.block q hq⟩ (by cases (Value.slice pa l.length cap).ownBlock <;> simp)
theorem PairsAt.set {base cap:Nat} {w:World} {pa:Option Addr} {l:List (Nat × Nat)} (h:PairsAt w base pa cap l) {a:Addr} (ha:a.block<base) (v:Value):PairsAt (w.setCell a v) base pa cap l :=
 ownsRow_setCell_below h ha v
theorem ownsRow_keep {w w':World} {base e size n:Nat} {v:Value} {xs:List Value} (h:w.ownsRow base e size v n xs) (hb:Below w.heap.size w w'):w'.ownsRow base e size v n xs :=
 h.kept (row:=none) ⟨hb.os,hb.tape,hb.output,hb.size,fun q hq _=>hb.block q hq⟩ (by cases v.ownBlock <;> simp)
theorem own_slice {w:World} {base e size n:Nat} {v:Value} {xs:List Value} (h:w.ownsRow base e size v n xs):∃a cap,v=.slice a n cap∧n≤cap∧cap≤maxLen:=by
 rcases h.2 with ⟨h1,h0⟩ | ⟨g,cap,cur,h1,hb,hh,hc,hm,hs,ht⟩
 ·exact⟨none,0,by rw [h1,h0],by omega,by unfold maxLen;omega⟩
 ·exact⟨_,cap,h1,hc,hm⟩
theorem own_cells {w:World} {base e size n cap:Nat} {a:Option Addr} {xs:List Value} (h:w.ownsRow base e size (.slice a n cap) n xs) (hn:0<n) :
 ∃G,a=some ⟨G,0,none⟩∧base≤G∧G<w.heap.size∧∀j,j<n*size→w.cell? ⟨G,j,none⟩=xs[j]?:=by
 have h':=h
 rcases h.2 with ⟨h1,h0⟩ | ⟨g,cap',cur,h1,hb,hh,hc,hm,hs,ht⟩
 ·omega
 ·simp only [Value.slice.injEq] at h1
  obtain⟨rfl,_,rfl⟩:=h1
  exact⟨g,rfl,hb,(Array.getElem?_eq_some_iff.1 hh).1,fun j hj=>World.ownsRow.cellAt h' j hj⟩
theorem out_of_row {w:World} {base b t n:Nat} {k:IntKind} {xs:List Int} (h:w.rowIs b t n (fun i=>.int k (ith xs i))) (hl:xs.length=n) (hb:base≤b) (hn:n≤maxLen):OutAt k t w base (some ⟨b,0,none⟩) n xs:=by
 obtain⟨c,hg,hs,hc⟩:=h
 subst hl
 refine⟨by simp,.inr ⟨b,xs.length,c,rfl,hb,hg,Nat.le_refl _,hn,by omega,?_⟩⟩
 apply List.ext_getElem?
 intro i
 rw [List.getElem?_take,List.getElem?_map]
 by_cases hi:i<xs.length
 ·rw [if_pos (by omega),ith_get hi]
  simpa using hc i hi
 ·rw [if_neg (by omega),List.getElem?_eq_none (by omega)];rfl
theorem ownsRow_take {w:World} {base e size n cap k:Nat} {a:Option Addr} {xs:List Value} (h:w.ownsRow base e size (.slice a n cap) n xs) (hk:k≤n) (hp:0<n) (hx:xs.length=n*size) :
 w.ownsRow base e size (.slice a k cap) k (xs.take (k*size)):=by
 have hkn:k*size≤n*size:=Nat.mul_le_mul_right _ hk
 obtain⟨h1,h2⟩:=h
 refine⟨by rw [List.length_take];omega,?_⟩
 rcases h2 with ⟨h2,h0⟩ | ⟨g,cap',cur,h2,hb,hg,hc,hm,hs,ht⟩
 ·cases h2;omega
 ·cases h2
  refine .inr ⟨g,cap,cur,rfl,hb,hg,by omega,hm,hs,?_⟩
  rw [←ht,List.take_take,Nat.min_eq_left hkn]
end
end Go.Proofs.YtlmjbfncopbilaaGreatDoor
