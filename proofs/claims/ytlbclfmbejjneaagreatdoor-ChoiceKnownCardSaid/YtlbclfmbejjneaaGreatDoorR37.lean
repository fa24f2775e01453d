/- Part 37 (merged by a program): lemmas of no further condition than each states. -/
import Derived.Test.YtlbclfmbejjneaaGreatDoorR36
namespace Go.Proofs.YtlbclfmbejjneaaGreatDoor
set_option linter.unusedVariables false
set_option linter.unusedSimpArgs false
section
theorem rowA_le (s:ByteArray) (ra:Int):rowA s ra≤s.size:=by unfold rowA;omega
theorem rowB_le (s:ByteArray) (ra rl:Int):rowA s ra≤rowB s ra rl∧rowB s ra rl≤s.size:=by
 have:=rowA_le s ra
 unfold rowB
 omega
theorem runes_two {s:ByteArray} {a b c k m n:Nat} (ha:Bord s a k) (hb:Bord s b m) (hc:Bord s c n) (h1:a≤b) (h2:b≤c) :
 (runesI (s.extract a c)).length=(runesI (s.extract a b)).length+(runesI (s.extract b c)).length:=by
 have e1:=inPs_spec ha hb h1
 have e2:=inPs_spec hb hc h2
 have e3:=inPs_spec ha hc (Nat.le_trans h1 h2)
 have hin:inPs s a c=inPs s a b++inPs s b c:=by
  have:=e3.1
  rw [e1.1,e2.1,←List.append_assoc] at this
  exact (List.append_cancel_right this).symm
 rw [runes_all (s.extract a c),runes_all (s.extract a b),runes_all (s.extract b c),←e3.2.1,←e1.2.1,←e2.2.1,hin,List.map_append,List.flatMap_append,List.length_append]
theorem found_facts (s:ByteArray) (ra rl:Int):rowFr s ra≤rowTo s ra rl∧rowTo s ra rl≤s.size∧(foundI s (rowFr s ra) (rowTo s ra rl)).length≤s.size ∧
 (∀(i:Nat) (p:Pc),(foundI s (rowFr s ra) (rowTo s ra rl))[i]? = some p→p.c0<p.c1∧p.c1≤(runesI (s.extract (rowFr s ra) (rowTo s ra rl))).length∧p.a+p.size≤s.size∧0<p.size∧p.c0<lastC (foundI s (rowFr s ra) (rowTo s ra rl))) ∧
 (runesI (s.extract 0 (rowFr s ra))).length+lastC (foundI s (rowFr s ra) (rowTo s ra rl))≤(runesI s).length:=by
 obtain⟨kf,hf,_,_⟩:=upB_spec s (rowA s ra) (rowA_le s ra)
 obtain⟨kt,ht,_,_⟩:=upB_spec s (rowB s ra rl) (rowB_le s ra rl).2
 have hft:rowFr s ra≤rowTo s ra rl:=upB_mono s _ _ (rowB_le s ra rl).1 (rowB_le s ra rl).2
 have htz:rowTo s ra rl≤s.size:=ht.1
 change Bord s (rowFr s ra) kf at hf
 change Bord s (rowTo s ra rl) kt at ht
 have hget:=fun i p hp=>found_get hf ht hft i p hp
 have hlen:(foundI s (rowFr s ra) (rowTo s ra rl)).length≤s.size:=by
  unfold foundI
  rw [findF_len]
  unfold inPs
  have h1:=List.length_filter_le (fun p:Nat × ByteArray=>decide (rowFr s ra≤p.1)&&decide (p.1<rowTo s ra rl)) (piecesI s)
  have h2:=pieces_len s
  omega
 have hlast:lastC (foundI s (rowFr s ra) (rowTo s ra rl))≤(runesI (s.extract (rowFr s ra) (rowTo s ra rl))).length∧∀(i:Nat) (p:Pc),(foundI s (rowFr s ra) (rowTo s ra rl))[i]? = some p→lastC (foundI s (rowFr s ra) (rowTo s ra rl))=(runesI (s.extract (rowFr s ra) (rowTo s ra rl))).length:=by
  have key:∀n,(foundI s (rowFr s ra) (rowTo s ra rl)).length=n+1→lastC (foundI s (rowFr s ra) (rowTo s ra rl))=(runesI (s.extract (rowFr s ra) (rowTo s ra rl))).length:=fun n hn=>by
   obtain⟨p,hp⟩:∃p,(foundI s (rowFr s ra) (rowTo s ra rl))[n]? = some p:=⟨_,List.getElem?_eq_getElem (by omega)⟩
   have:=(hget n p hp).2.2.2.2.2.2.2 hn.symm
   unfold lastC
   rw [List.getLastD_eq_getLast?,List.getLast?_eq_getElem?,hn,Nat.add_sub_cancel,hp]
   exact this
  refine⟨?_,fun i p hp=>?_⟩
  ·cases hn:(foundI s (rowFr s ra) (rowTo s ra rl)).length with
   | zero =>
     rw [List.length_eq_zero_iff.1 hn]
     exact Nat.zero_le _
   | succ n=>exact Nat.le_of_eq (key n hn)
  ·have:=(List.getElem?_eq_some_iff.1 hp).1
   exact key ((foundI s (rowFr s ra) (rowTo s ra rl)).length-1) (by omega)
 refine⟨hft,htz,hlen,fun i p hp=>?_,?_⟩
 ·obtain⟨g1,g2,g3,g4,g5,g6,g7,g8⟩:=hget i p hp
  exact⟨g5,g6,by omega,g3,by rw [hlast.2 i p hp];omega⟩
 ·have h1:=runes_two (Bord.zero s) hf ht (Nat.zero_le _) hft
  have h2:=runes_two (Bord.zero s) ht (bord_end s) (Nat.zero_le _) htz
  rw [ByteArray.extract_zero_size] at h2
  omega
theorem becomeI_size (T:ByteArray) (O:List Int) (odd:Bool) (hT:T.size≤2097152) (hO:O.length≤2097152):(becomeI T O odd).size≤8388612:=by
 unfold becomeI
 have h1:=runesBytes_size_le O
 have h2:=runesBytes_size_le (mirrorI (ith O 0)::O.tail)
 rw [runesBytes_F] at h1 h2
 rw [List.length_cons,List.length_tail] at h2
 split
 ·omega
 split <;> omega
theorem lay2_get (s:ByteArray) (hs:s.size≤2097152) (want:Int) (join raw:Bool) (ra rl:Int) (i:Nat) (p:Pc) (hp:(lay2 s want join raw ra rl)[i]? = some p) :
 p.a+p.size≤s.size∧0<p.size∧p.became.size≤8388612∧p.wide=0:=by
 have hw:=lay2_wide s want join raw ra rl p (List.mem_of_getElem? hp)
 obtain⟨q,hq,e⟩:=mem_map_eq (lay2_map (fun p=>(p.a,p.size)) (fun _ _=>rfl) (fun _ _=>rfl) s want join raw ra rl) (List.mem_of_getElem? hp)
 obtain⟨j,hj⟩:=List.mem_iff_getElem?.1 hq
 have hf:=(found_facts s ra rl).2.2.2.1 j q hj
 simp only [Prod.mk.injEq] at e
 refine⟨by omega,by omega,?_,hw⟩
 unfold lay2 at hp
 rw [List.getElem?_map] at hp
 obtain⟨r,hr,e2⟩:=Option.map_eq_some_iff.1 hp
 rw [←e2]
 refine becomeI_size _ _ _ ?_ ?_
 ·simp [ByteArray.size_extract];omega
 ·have h1:=madeI_len s join (rowFr s ra) (rowTo s ra rl)
  have h2:=runesI_len (s.extract (rowFr s ra) (rowTo s ra rl))
  have h3:(s.extract (rowFr s ra) (rowTo s ra rl)).size≤s.size:=by simp [ByteArray.size_extract];omega
  rw [List.length_take,List.length_drop]
  omega
theorem seen_get (ls:List Nat) (n k:Nat) (hn:ls.length=n) (hk:k<n):∃j:Nat,j<n∧(orderI ls)[k]? = some (j:Int):=by
 subst hn
 refine⟨oF (lvF ls) ls.length (0+1) (topF ls ls.length) k,oF_lt _ _ _ hk,?_⟩
 unfold orderI listOf
 rw [List.getElem?_map,List.getElem?_range hk]
 rfl
theorem order_len (ls:List Nat):(orderI ls).length=ls.length:=by unfold orderI;rw [listOf_len]
theorem edgeF_step (i:Nat) (t:List Int) (x:Int) (L:List Pc) (p:Pc) (h:L[i]? = some p):edgeF ((i:Int)::t) x L=edgeF t (x+p.wide) (L.set i { p with e0:=x,e1:=x+p.wide }):=by
 have hg:L.getD i default=p:=by rw [List.getD_eq_getElem?_getD,h];rfl
 rw [edgeF,Int.toNat_natCast,hg]
theorem tailF_out (s:ByteArray) (L:List Pc) (t:Nat) (h:blankP s (L.getD t default)=true):tailF s L (t+1)=tailF s L t:=by rw [tailF,if_pos h]
theorem tailF_in (s:ByteArray) (L:List Pc) (t:Nat) (h:blankP s (L.getD t default)=false):tailF s L (t+1)=t+1:=by rw [tailF,h,if_neg (by decide)]
end
end Go.Proofs.YtlbclfmbejjneaaGreatDoor
