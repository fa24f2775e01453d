/- Part 28 (merged by a program): lemmas of no further condition than each states. -/
import Derived.Test.YtlmjbfncopbilaaGreatDoorK27
namespace Go.Proofs.YtlmjbfncopbilaaGreatDoor
set_option linter.unusedVariables false
set_option linter.unusedSimpArgs false
section
theorem piecesF_low (s:ByteArray):∀(f a:Nat),a≤s.size→∀q∈piecesF s f a,a≤q.1
 | 0,a,ha,q,hq=>by simp [piecesF] at hq
 | f+1,a,ha,q,hq=>by
   rw [piecesF] at hq
   by_cases h:a<s.size
   ·rw [if_pos h] at hq
    have hz:=ext_size s a ha
    have hn:=nextI_bd (s.extract a s.size) (by omega)
    rcases List.mem_cons.1 hq with rfl | hq
    ·exact Nat.le_refl _
    ·have:=piecesF_low s f _ (by omega) q hq
     omega
   ·rw [if_neg h] at hq;cases hq
theorem piecesF_pw (s:ByteArray):∀(f a:Nat),a≤s.size→(piecesF s f a).Pairwise (fun p q=>p.1+p.2.size≤q.1)
 | 0,a,ha=>by simp [piecesF]
 | f+1,a,ha=>by
   rw [piecesF]
   by_cases h:a<s.size
   ·rw [if_pos h]
    have hz:=ext_size s a ha
    have hn:=nextI_bd (s.extract a s.size) (by omega)
    have he:(s.extract a (a+nextI (s.extract a s.size))).size=nextI (s.extract a s.size):=by simp [ByteArray.size_extract];omega
    refine List.pairwise_cons.2 ⟨fun q hq=>?_,piecesF_pw s f _ (by omega)⟩
    have:=piecesF_low s f _ (by omega) q hq
    show a+(s.extract a (a+nextI (s.extract a s.size))).size≤q.1
    rw [he]
    exact this
   ·rw [if_neg h];exact List.Pairwise.nil
theorem inPs_pw (s:ByteArray) (fr tt:Nat):(inPs s fr tt).Pairwise (fun p q=>p.1+p.2.size≤q.1):=(piecesF_pw s s.size 0 (Nat.zero_le _)).filter _
theorem findF_map:∀(ps:List (Nat × ByteArray)) (n:Nat),(findF ps n).map (fun p=>(p.a,p.size,p.level))=ps.map (fun q=>(q.1,q.2.size,0))
 | [],_=>rfl
 | p::t,n=>by rw [findF,List.map_cons,findF_map t,List.map_cons];rfl
theorem layF_map {α:Type} (f:Pc→α) (hf:∀(p:Pc) (a:ByteArray) (b:Int),f { p with shown:=a,wide:=b }=f p) (rw tab:Int) (wideA raw:Bool):∀(L:List Pc) (i:Nat) (x t:Int),(layF rw tab wideA raw L i x t).1.map f=L.map f
 | [],_,_,_=>rfl
 | p::L,i,x,t=>by
   rw [layF_cons]
   by_cases h:0≤tlF rw i x (textI p.became x tab wideA raw).2 t
   ·rw [if_pos h]
    dsimp only
    rw [List.map_cons,hf,layF_map f hf rw tab wideA raw L,List.map_cons]
   ·rw [if_neg h]
    dsimp only
    rw [List.map_cons,layF_map f hf rw tab wideA raw L,List.map_cons]
theorem set_map {α:Type} (f:Pc→α) (L:List Pc) (i:Nat) (q:Pc) (h:f q=f (L.getD i default)):(L.set i q).map f=L.map f:=by
 apply List.ext_getElem?
 intro j
 rw [List.getElem?_map,List.getElem?_map,List.getElem?_set]
 by_cases e:i=j
 ·subst e
  rw [if_pos rfl]
  by_cases hl:i<L.length
  ·rw [if_pos hl,List.getElem?_eq_getElem hl]
   simp only [Option.map_some]
   rw [h,List.getD_eq_getElem?_getD,List.getElem?_eq_getElem hl]
   rfl
  ·rw [if_neg hl,List.getElem?_eq_none (by omega)]
 ·rw [if_neg e]
theorem edgeF_map {α:Type} (f:Pc→α) (hf:∀(p:Pc) (a b:Int),f { p with e0:=a,e1:=b }=f p):∀(o:List Int) (x:Int) (L:List Pc),(edgeF o x L).map f=L.map f
 | [],_,_=>rfl
 | i::t,x,L=>by rw [edgeF,edgeF_map f hf t,set_map f L _ _ (hf _ _ _)]
theorem change_map {α:Type} (f:Pc→α) (hf:∀(p:Pc) (a:ByteArray),f { p with became:=a }=f p) (s:ByteArray) (rs:List Int) (L:List Pc):(L.map (changeP s rs)).map f=L.map f:=by
 rw [List.map_map]
 exact List.map_congr_left fun p _=>hf p _
theorem cellsP_len (p:Pc):(cellsP p).length=p.wide.toNat:=by unfold cellsP;simp
theorem leftF_le (c:Int):∀L:List Pc,leftF c L≤L.length
 | []=>Nat.le_refl _
 | p::t=>by
   rw [leftF]
   split
   ·have:=leftF_le c t;simp;omega
   ·exact Nat.zero_le _
theorem wsum_map:∀(A B:List Pc),A.map (·.wide)=B.map (·.wide)→wsum A=wsum B
 | [],[],_=>rfl
 | [],_::_,h=>by cases h
 | _::_,[],h=>by cases h
 | a::A,b::B,h=>by
   rw [List.map_cons,List.map_cons] at h
   obtain⟨h1,h2⟩:=List.cons.inj h
   rw [wsum,wsum,wsum_map A B h2,h1]
theorem found_zero:∀(ps:List (Nat × ByteArray)) (n:Nat),∀p∈findF ps n,p.wide=0∧p.level=0
 | [],_,p,h=>by cases h
 | q::t,n,p,h=>by
   rw [findF] at h
   rcases List.mem_cons.1 h with rfl | h
   ·exact⟨rfl,rfl⟩
   ·exact found_zero t _ p h
theorem levels_map {α:Type} (f:Pc→α) (hf:∀(p:Pc) (l:Nat),f { p with level:=l }=f p) (s:ByteArray) (want:Int) (raw:Bool) (fr:Nat) (L:List Pc):(levelsI s want raw fr L).map f=L.map f:=by
 unfold levelsI
 split
 ·rfl
 ·rw [List.map_map]
  exact List.map_congr_left fun p _=>hf p _
theorem lay2_map {α:Type} (f:Pc→α) (h1:∀(p:Pc) (l:Nat),f { p with level:=l }=f p) (h2:∀(p:Pc) (a:ByteArray),f { p with became:=a }=f p) (s:ByteArray) (want:Int) (join raw:Bool) (ra rl:Int) :
 (lay2 s want join raw ra rl).map f=(foundI s (rowFr s ra) (rowTo s ra rl)).map f:=by
 unfold lay2
 rw [change_map f h2,levels_map f h1]
theorem layL_map {α:Type} (f:Pc→α) (h1:∀(p:Pc) (a:ByteArray) (b:Int),f { p with shown:=a,wide:=b }=f p) (h2:∀(p:Pc) (a b:Int),f { p with e0:=a,e1:=b }=f p)
 (s:ByteArray) (tab want:Int) (wideA join raw:Bool) (ra rl rw:Int):(layL s tab want wideA join raw ra rl rw).map f=(lay2 s want join raw ra rl).map f:=by
 unfold layL lay3
 rw [edgeF_map f h2,layF_map f h1]
theorem mem_map_eq {α β:Type} {f:α→β} {A B:List α} (h:A.map f=B.map f) {a:α} (ha:a∈A):∃b∈B,f b=f a:=by
 have:f a∈B.map f:=by rw [←h];exact List.mem_map_of_mem ha
 obtain⟨b,hb,e⟩:=List.mem_map.1 this
 exact⟨b,hb,e⟩
theorem lay2_wide (s:ByteArray) (want:Int) (join raw:Bool) (ra rl:Int):∀p∈lay2 s want join raw ra rl,p.wide=0:=fun p hp=>by
 obtain⟨q,hq,e⟩:=mem_map_eq (lay2_map (fun p=>p.wide) (fun _ _=>rfl) (fun _ _=>rfl) s want join raw ra rl) hp
 rw [←e]
 exact (found_zero _ _ q hq).1
theorem lay3_bd (s:ByteArray) (tab want:Int) (wideA join raw:Bool) (ra rl rw:Int):∀q∈(lay3 s tab want wideA join raw ra rl rw).1,0≤q.wide∧q.wide≤19:=fun q hq=>by
 obtain⟨j,hj,e⟩:=List.mem_iff_getElem.1 hq
 unfold lay3 at hj e
 have hj2:=hj
 rw [layF_len] at hj2
 obtain⟨p,hp⟩:∃p,(lay2 s want join raw ra rl)[j]? = some p:=⟨_,List.getElem?_eq_getElem hj2⟩
 obtain⟨q',hq',hl⟩:=layF_get rw tab wideA raw _ 0 0 (tailF s (lay2 s want join raw ra rl) (lay2 s want join raw ra rl).length) j p hp
 rw [List.getElem?_eq_getElem hj,e] at hq'
 have:=Option.some.inj hq'
 subst this
 rcases hl with rfl | ⟨x,rfl⟩
 ·have:=lay2_wide s want join raw ra rl q (List.mem_of_getElem? hp)
  omega
 ·exact textI_bd _ _ _ _ _
theorem layL_wide (s:ByteArray) (tab want:Int) (wideA join raw:Bool) (ra rl rw:Int):(layL s tab want wideA join raw ra rl rw).map (·.wide)=(lay3 s tab want wideA join raw ra rl rw).1.map (·.wide):=by
 unfold layL
 exact edgeF_map (fun p=>p.wide) (fun _ _ _=>rfl) _ _ _
theorem layL_bd (s:ByteArray) (tab want:Int) (wideA join raw:Bool) (ra rl rw:Int):∀q∈layL s tab want wideA join raw ra rl rw,0≤q.wide∧q.wide≤19:=fun q hq=>by
 obtain⟨p,hp,e⟩:=mem_map_eq (layL_wide s tab want wideA join raw ra rl rw) hq
 have:=lay3_bd s tab want wideA join raw ra rl rw p hp
 omega
theorem lay3_sum (s:ByteArray) (tab want:Int) (wideA join raw:Bool) (ra rl rw:Int):(lay3 s tab want wideA join raw ra rl rw).2=wsum (layL s tab want wideA join raw ra rl rw):=by
 rw [wsum_map _ _ (layL_wide s tab want wideA join raw ra rl rw)]
 unfold lay3
 rw [layF_sum _ _ _ _ _ _ _ _ (lay2_wide s want join raw ra rl)]
 omega
theorem layL_len (s:ByteArray) (tab want:Int) (wideA join raw:Bool) (ra rl rw:Int):(layL s tab want wideA join raw ra rl rw).length=(lay2 s want join raw ra rl).length:=by
 unfold layL lay3
 rw [edgeF_len,layF_len]
theorem lay2_len (s:ByteArray) (want:Int) (join raw:Bool) (ra rl:Int):(lay2 s want join raw ra rl).length=(foundI s (rowFr s ra) (rowTo s ra rl)).length:=by
 have:=congrArg List.length (lay2_map (fun p=>p.a) (fun _ _=>rfl) (fun _ _=>rfl) s want join raw ra rl)
 simpa using this
theorem layL_pw (s:ByteArray) (tab want:Int) (wideA join raw:Bool) (ra rl rw:Int):(layL s tab want wideA join raw ra rl rw).Pairwise (fun p q=>p.a+p.size≤q.a):=by
 have h1:(layL s tab want wideA join raw ra rl rw).map (fun p=>(p.a,p.size))=(inPs s (rowFr s ra) (rowTo s ra rl)).map (fun q=>(q.1,q.2.size)):=by
  rw [layL_map (fun p=>(p.a,p.size)) (fun _ _ _=>rfl) (fun _ _ _=>rfl),lay2_map (fun p=>(p.a,p.size)) (fun _ _=>rfl) (fun _ _=>rfl)]
  have:=congrArg (List.map (fun x:Nat × Nat × Nat=>(x.1,x.2.1))) (findF_map (inPs s (rowFr s ra) (rowTo s ra rl)) 0)
  rw [List.map_map,List.map_map] at this
  exact this
 have h2:((inPs s (rowFr s ra) (rowTo s ra rl)).map (fun q=>(q.1,q.2.size))).Pairwise (fun x y:Nat × Nat=>x.1+x.2≤y.1):=List.pairwise_map.2 (inPs_pw s _ _)
 rw [←h1] at h2
 exact List.pairwise_map.1 h2
end
section
open Go.RowKit Go.Proofs Go.Shelf
attribute [local go_sem] Oper.semAt_some
theorem conv_str2 (d:ByteArray) (hz:d.size≤2097152) :
 ∃(C:World→Nat) (F:World→World),(∀w,(convert 9 137 (.string d)).run Tryz.prog w=.ok (.slice (some ⟨w.heap.size,0,none⟩) (runesI d).length (C w)) (F w)) ∧
   ∀w,Below w.heap.size w (F w)∧Rd .i32 (F w) (some ⟨w.heap.size,0,none⟩) (runesI d)∧(runesI d).length≤C w∧C w≤9223372036854775807:=by
 have hs:Conv.runesFrom d d.size 0 #[]=((runesI d).map (Value.int .i32)).toArray:=by
  rw [runes_conv];unfold runesI;simp
 have hsz:(Conv.runesFrom d d.size 0 #[]).size=(runesI d).length:=by rw [hs];simp
 have hle:=runesF_len d d.size 0
 refine⟨fun w=>grownCap w (runesI d).length 0 21,fun w=>w.drew.alloc (.cells (Conv.runesFrom d d.size 0 #[]++Array.replicate (grownCap w (runesI d).length 0 21-(runesI d).length) (.int .i32 0)) 21),fun w=>?_,fun w=>⟨?_,?_,?_,?_⟩⟩
 ·have:=run_runes_of_string (P:=Tryz.prog) w 9 137 21 d Tryz.underlying9 Tryz.underlying137 Tryz.underlying21 (by rw [hsz];unfold runesI;omega)
  rw [this,hsz]
 ·exact (Below.refl _ _).drew.alloc (Nat.le_refl _) _
 ·exact runes_rd w d 21 _
 ·exact grownCap_ge w (runesI d).length 0 21
 ·have h1:(runesI d).length≤d.size:=by unfold runesI;omega
  have h2:=grownCap_le_maxLen w (runesI d).length 0 21 (by unfold maxLen;omega)
  unfold maxLen at h2
  show grownCap w (runesI d).length 0 21≤9223372036854775807
  omega
theorem runesI_len (d:ByteArray):(runesI d).length≤d.size:=by
 have hle:=runesF_len d d.size 0
 unfold runesI;omega
theorem Runes_at (d:ByteArray) (hz:d.size≤2097152) (w:World) :
 Calls Tryz.prog 76 #[.string d] w fun e w'=>∃c,e=.returned (.slice (some ⟨w.heap.size,0,none⟩) (runesI d).length c)∧Rd .i32 w' (some ⟨w.heap.size,0,none⟩) (runesI d)∧(runesI d).length≤c∧c≤9223372036854775807∧Below w.heap.size w w':=by
 obtain⟨C,F,hcv,hF⟩:=conv_str2 d hz
 go_enter Tryz.func76,Tryz.ntmps76
 go_wp2_with (fail)
 go_ret
 exact⟨_,rfl,(hF w).2.1,(hF w).2.2.1,(hF w).2.2.2,(hF w).1⟩
theorem rd_set {k:IntKind} {w:World} {g o b i:Nat} {xs:List Int} {v:Value} (h:Rd k w (some ⟨g,o,none⟩) xs) (hne:b≠g):Rd k (w.setCell ⟨b,i,none⟩ v) (some ⟨g,o,none⟩) xs:=by
 rcases h with h | ⟨c,off,e,h1,h2⟩
 ·exact .inl h
 ·cases e
  exact .inr ⟨g,o,rfl,Nat.lt_of_lt_of_le h1 (KeepsWalks.setCell w ⟨b,i,none⟩ v).size,fun j hj=>(World.cell?_setCell_far _ _ _ _ hne).trans (h2 j hj)⟩
end
section
theorem rowA_le (s:ByteArray) (ra:Int):rowA s ra≤s.size:=by unfold rowA;omega
theorem rowB_le (s:ByteArray) (ra rl:Int):rowA s ra≤rowB s ra rl∧rowB s ra rl≤s.size:=by
 have:=rowA_le s ra
 unfold rowB
 omega
theorem runes_two {s:ByteArray} {a b c k m n:Nat} (ha:Bord s a k) (hb:Bord s b m) (hc:Bord s c n) (h1:a≤b) (h2:b≤c) :
 (runesI (s.extract a c)).length=(runesI (s.extract a b)).length+(runesI (s.extract b c)).length:=by
 have e1:=inPs_spec ha hb h1
 have e2:=inPs_spec hb hc h2
 have e3:=inPs_spec ha hc (Nat.le_trans h1 h2)
 have hin:inPs s a c=inPs s a b++inPs s b c:=by
  have:=e3.1
  rw [e1.1,e2.1,←List.append_assoc] at this
  exact (List.append_cancel_right this).symm
 rw [runes_all (s.extract a c),runes_all (s.extract a b),runes_all (s.extract b c),←e3.2.1,←e1.2.1,←e2.2.1,hin,List.map_append,List.flatMap_append,List.length_append]
theorem found_facts (s:ByteArray) (ra rl:Int):rowFr s ra≤rowTo s ra rl∧rowTo s ra rl≤s.size∧(foundI s (rowFr s ra) (rowTo s ra rl)).length≤s.size ∧
 (∀(i:Nat) (p:Pc),(foundI s (rowFr s ra) (rowTo s ra rl))[i]? = some p→p.c0<p.c1∧p.c1≤(runesI (s.extract (rowFr s ra) (rowTo s ra rl))).length∧p.a+p.size≤s.size∧0<p.size∧p.c0<lastC (foundI s (rowFr s ra) (rowTo s ra rl))) ∧
 (runesI (s.extract 0 (rowFr s ra))).length+lastC (foundI s (rowFr s ra) (rowTo s ra rl))≤(runesI s).length:=by
 obtain⟨kf,hf,_,_⟩:=upB_spec s (rowA s ra) (rowA_le s ra)
 obtain⟨kt,ht,_,_⟩:=upB_spec s (rowB s ra rl) (rowB_le s ra rl).2
 have hft:rowFr s ra≤rowTo s ra rl:=upB_mono s _ _ (rowB_le s ra rl).1 (rowB_le s ra rl).2
 have htz:rowTo s ra rl≤s.size:=ht.1
 change Bord s (rowFr s ra) kf at hf
 change Bord s (rowTo s ra rl) kt at ht
 have hget:=fun i p hp=>found_get hf ht hft i p hp
 have hlen:(foundI s (rowFr s ra) (rowTo s ra rl)).length≤s.size:=by
  unfold foundI
  rw [findF_len]
  unfold inPs
  have h1:=List.length_filter_le (fun p:Nat × ByteArray=>decide (rowFr s ra≤p.1)&&decide (p.1<rowTo s ra rl)) (piecesI s)
  have h2:=pieces_len s
  omega
 have hlast:lastC (foundI s (rowFr s ra) (rowTo s ra rl))≤(runesI (s.extract (rowFr s ra) (rowTo s ra rl))).length∧∀(i:Nat) (p:Pc),(foundI s (rowFr s ra) (rowTo s ra rl))[i]? = some p→lastC (foundI s (rowFr s ra) (rowTo s ra rl))=(runesI (s.extract (rowFr s ra) (rowTo s ra rl))).length:=by
  have key:∀n,(foundI s (rowFr s ra) (rowTo s ra rl)).length=n+1→lastC (foundI s (rowFr s ra) (rowTo s ra rl))=(runesI (s.extract (rowFr s ra) (rowTo s ra rl))).length:=fun n hn=>by
   obtain⟨p,hp⟩:∃p,(foundI s (rowFr s ra) (rowTo s ra rl))[n]? = some p:=⟨_,List.getElem?_eq_getElem (by omega)⟩
   have:=(hget n p hp).2.2.2.2.2.2.2 hn.symm
   unfold lastC
   rw [List.getLastD_eq_getLast?,List.getLast?_eq_getElem?,hn,Nat.add_sub_cancel,hp]
   exact this
  refine⟨?_,fun i p hp=>?_⟩
  ·cases hn:(foundI s (rowFr s ra) (rowTo s ra rl)).length with
   | zero =>
     rw [List.length_eq_zero_iff.1 hn]
     exact Nat.zero_le _
   | succ n=>exact Nat.le_of_eq (key n hn)
  ·have:=(List.getElem?_eq_some_iff.1 hp).1
   exact key ((foundI s (rowFr s ra) (rowTo s ra rl)).length-1) (by omega)
 refine⟨hft,htz,hlen,fun i p hp=>?_,?_⟩
 ·obtain⟨g1,g2,g3,g4,g5,g6,g7,g8⟩:=hget i p hp
  exact⟨g5,g6,by omega,g3,by rw [hlast.2 i p hp];omega⟩
 ·have h1:=runes_two (Bord.zero s) hf ht (Nat.zero_le _) hft
  have h2:=runes_two (Bord.zero s) ht (bord_end s) (Nat.zero_le _) htz
  rw [ByteArray.extract_zero_size] at h2
  omega
theorem becomeI_size (T:ByteArray) (O:List Int) (odd:Bool) (hT:T.size≤2097152) (hO:O.length≤2097152):(becomeI T O odd).size≤8388612:=by
 unfold becomeI
 have h1:=runesBytes_size_le O
 have h2:=runesBytes_size_le (mirrorI (ith O 0)::O.tail)
 rw [runesBytes_F] at h1 h2
 rw [List.length_cons,List.length_tail] at h2
 split
 ·omega
 split <;> omega
theorem lay2_get (s:ByteArray) (hs:s.size≤2097152) (want:Int) (join raw:Bool) (ra rl:Int) (i:Nat) (p:Pc) (hp:(lay2 s want join raw ra rl)[i]? = some p) :
 p.a+p.size≤s.size∧0<p.size∧p.became.size≤8388612∧p.wide=0:=by
 have hw:=lay2_wide s want join raw ra rl p (List.mem_of_getElem? hp)
 obtain⟨q,hq,e⟩:=mem_map_eq (lay2_map (fun p=>(p.a,p.size)) (fun _ _=>rfl) (fun _ _=>rfl) s want join raw ra rl) (List.mem_of_getElem? hp)
 obtain⟨j,hj⟩:=List.mem_iff_getElem?.1 hq
 have hf:=(found_facts s ra rl).2.2.2.1 j q hj
 simp only [Prod.mk.injEq] at e
 refine⟨by omega,by omega,?_,hw⟩
 unfold lay2 at hp
 rw [List.getElem?_map] at hp
 obtain⟨r,hr,e2⟩:=Option.map_eq_some_iff.1 hp
 rw [←e2]
 refine becomeI_size _ _ _ ?_ ?_
 ·simp [ByteArray.size_extract];omega
 ·have h1:=madeI_len s join (rowFr s ra) (rowTo s ra rl)
  have h2:=runesI_len (s.extract (rowFr s ra) (rowTo s ra rl))
  have h3:(s.extract (rowFr s ra) (rowTo s ra rl)).size≤s.size:=by simp [ByteArray.size_extract];omega
  rw [List.length_take,List.length_drop]
  omega
theorem seen_get (ls:List Nat) (n k:Nat) (hn:ls.length=n) (hk:k<n):∃j:Nat,j<n∧(orderI ls)[k]? = some (j:Int):=by
 subst hn
 refine⟨oF (lvF ls) ls.length (0+1) (topF ls ls.length) k,oF_lt _ _ _ hk,?_⟩
 unfold orderI listOf
 rw [List.getElem?_map,List.getElem?_range hk]
 rfl
theorem order_len (ls:List Nat):(orderI ls).length=ls.length:=by unfold orderI;rw [listOf_len]
theorem edgeF_step (i:Nat) (t:List Int) (x:Int) (L:List Pc) (p:Pc) (h:L[i]? = some p):edgeF ((i:Int)::t) x L=edgeF t (x+p.wide) (L.set i { p with e0:=x,e1:=x+p.wide }):=by
 have hg:L.getD i default=p:=by rw [List.getD_eq_getElem?_getD,h];rfl
 rw [edgeF,Int.toNat_natCast,hg]
theorem tailF_out (s:ByteArray) (L:List Pc) (t:Nat) (h:blankP s (L.getD t default)=true):tailF s L (t+1)=tailF s L t:=by rw [tailF,if_pos h]
theorem tailF_in (s:ByteArray) (L:List Pc) (t:Nat) (h:blankP s (L.getD t default)=false):tailF s L (t+1)=t+1:=by rw [tailF,h,if_neg (by decide)]
end
section
def moreR (x:Int):Nat→List Int→Nat→Int→Nat
 | 0,_,_,_=>0
 | _+1,[],_,_=>0
 | f+1,y::t,n,z=>if goesOn x z y n=true then moreR x f t (n+1) y+1 else 0
def nextR:List Int→Nat
 | []=>0
 | x::t=>if aloneB x=true then (if x=13∧t.head? = some 10 then 2 else 1) else moreR x 31 t 1 x+1
theorem bytesF_app:∀(l m:List Int),bytesF (l++m)=bytesF l++bytesF m
 | [],m=>by
   apply ByteArray.ext
   simp [bytesF]
 | r::t,m=>by rw [List.cons_append,bytesF,bytesF,bytesF_app t,ByteArray.append_assoc]
theorem bytesF_take_size (l:List Int) (k:Nat) (h:(bytesF (l.take k)).size=(bytesF l).size):l.length≤k:=by
 have h1:bytesF l=bytesF (l.take k)++bytesF (l.drop k):=by rw [←bytesF_app,List.take_append_drop]
 rw [h1,ByteArray.size_append] at h
 have h2:(bytesF (l.drop k)).size=0:=by omega
 cases hd:l.drop k with
 | nil=>exact List.drop_eq_nil_iff.1 hd
 | cons r t =>
   exfalso
   rw [hd,bytesF,ByteArray.size_append] at h2
   have:=enc_pos r
   omega
theorem enc_bad (r:Int) (hv:validRune r=true):¬ (r=65533∧(Utf8.encode r).size=1):=by
 rintro⟨rfl,h⟩
 have:(Utf8.encode 65533).size=3:=by decide
 omega
theorem more_runes (x:Int):∀(f n:Nat) (z:Int) (pre rest:List Int),validAll rest→moreF x (bytesF (pre++rest)) f n z (bytesF pre).size=(bytesF (pre++rest.take (moreR x f rest n z))).size
 | 0,n,z,pre,rest,h=>by rw [moreF,moreR];simp
 | f+1,n,z,pre,[],h=>by
   rw [moreF,moreR,if_pos (.inl (by rw [List.append_nil]))]
   simp
 | f+1,n,z,pre,y::t,h=>by
   have hv:=h y (by simp)
   have hg:=bytes_go y t hv
   have hy:0≤y:=by unfold validRune at hv;rw [decide_eq_true_eq] at hv;omega
   have hx:(bytesF (pre++y::t)).extract (bytesF pre).size (bytesF (pre++y::t)).size=bytesF (y::t):=by rw [bytesF_app];exact app_tail _ _
   have e1:decR (bytesF (y::t))=y:=by unfold decR;rw [hg];show ((y.toNat:Nat):Int)=y;omega
   have e2:decN (bytesF (y::t))=(Utf8.encode y).size:=by unfold decN;rw [hg]
   have hp:=enc_pos y
   have hz:(bytesF (pre++y::t)).size=(bytesF pre).size+((Utf8.encode y).size+(bytesF t).size):=by rw [bytesF_app,ByteArray.size_append,bytesF,ByteArray.size_append]
   rw [moreF,moreR,hx,e1,e2,if_neg (by
    rintro (e | e)
    ·omega
    ·exact enc_bad y hv e)]
   by_cases hgo:goesOn x z y n=true
   ·rw [if_pos hgo,if_pos hgo,List.take_succ_cons]
    have h1:=more_runes x f (n+1) y (pre++[y]) t (fun r hr=>h r (by simp [hr]))
    have h2:(bytesF (pre++[y])).size=(bytesF pre).size+(Utf8.encode y).size:=by
     rw [bytesF_app,ByteArray.size_append]
     congr 1
     rw [bytesF,ByteArray.size_append]
     rfl
    rw [h2] at h1
    rw [show pre++[y]++t=pre++y::t by simp,show pre++[y]++t.take (moreR x f t (n+1) y)=pre++y::t.take (moreR x f t (n+1) y) by simp] at h1
    exact h1
   ·rw [if_neg hgo,if_neg hgo]
    simp
theorem next_runes (l:List Int) (h:validAll l):nextI (bytesF l)=(bytesF (l.take (nextR l))).size:=by
 cases l with
 | nil=>rw [nextR];unfold nextI;rfl
 | cons x t =>
   have hv:=h x (by simp)
   have hg:=bytes_go x t hv
   have hx:0≤x:=by unfold validRune at hv;rw [decide_eq_true_eq] at hv;omega
   have e1:decR (bytesF (x::t))=x:=by unfold decR;rw [hg];show ((x.toNat:Nat):Int)=x;omega
   have e2:decN (bytesF (x::t))=(Utf8.encode x).size:=by unfold decN;rw [hg]
   have hp:=enc_pos x
   have hz:(bytesF (x::t)).size=(Utf8.encode x).size+(bytesF t).size:=by rw [bytesF,ByteArray.size_append]
   unfold nextI
   rw [if_neg (by omega),e1,e2,nextR]
   have hnb:=enc_bad x hv
   have hone:(bytesF [x]).size=(Utf8.encode x).size:=by rw [bytesF,ByteArray.size_append];rfl
   by_cases ha:aloneB x=true
   ·rw [if_pos (.inr ha),if_pos ha]
    have key:(x=13∧1<(bytesF (x::t)).size∧(bytesF (x::t)).get! 1=10)↔(x=13∧t.head? = some 10):=by
     constructor
     ·rintro⟨rfl,h1,h2⟩
      refine⟨rfl,?_⟩
      have e13:(Utf8.encode 13).size=1:=by decide
      have hg1:(bytesF (13::t)).get! 1=(bytesF t).get! 0:=by
       have:=ext_get (bytesF (13::t)) 1 0 (by omega)
       rw [Nat.add_zero] at this
       rw [←this]
       congr 1
       have:=app_tail (Utf8.encode 13) (bytesF t)
       rw [e13] at this
       rw [bytesF];exact this
      cases t with
      | nil=>exfalso;rw [hz,e13] at h1;simp [bytesF,ByteArray.size] at h1
      | cons y t =>
        have hvy:=h y (by simp)
        have hgy:=bytes_go y t hvy
        have hy:0≤y:=by unfold validRune at hvy;rw [decide_eq_true_eq] at hvy;omega
        have hpy:=enc_pos y
        have hzy:0<(bytesF (y::t)).size:=by rw [bytesF,ByteArray.size_append];omega
        rw [←dec_go _ hzy,Lib.decode_at,←hg1,h2] at hgy
        unfold Lib.decodeN at hgy
        rw [if_pos (by decide)] at hgy
        have:=congrArg Prod.fst hgy
        simp at this
        have hyv:y=10:=by
         have h10:(10:UInt8).toNat=10:=rfl
         omega
        rw [hyv];rfl
     ·rintro⟨rfl,h1⟩
      cases t with
      | nil=>cases h1
      | cons y t =>
        have:y=10:=by simpa using h1
        subst this
        have e13:(Utf8.encode 13).size=1:=by decide
        have e10:(Utf8.encode 10)=⟨#[10]⟩:=by decide
        refine⟨rfl,?_,?_⟩
        ·rw [hz,e13,bytesF,ByteArray.size_append,e10]
         show 1<1+(1+_);omega
        ·have hl:(bytesF (13::10::t)).size=1+(1+(bytesF t).size):=by rw [hz,e13,bytesF,ByteArray.size_append,e10];rfl
         have:=ext_get (bytesF (13::10::t)) 1 0 (by omega)
         rw [Nat.add_zero] at this
         rw [←this]
         have h3:=app_tail (Utf8.encode 13) (bytesF (10::t))
         rw [e13] at h3
         rw [show bytesF (13::10::t)=Utf8.encode 13++bytesF (10::t) from rfl,h3,bytesF,e10]
         exact get_app #[10] _ 0 (by simp)
    by_cases hk:x=13∧t.head? = some 10
    ·rw [if_pos (key.2 hk),if_pos hk]
     obtain⟨rfl,h1⟩:=hk
     cases t with
     | nil=>cases h1
     | cons y t =>
       have:y=10:=by simpa using h1
       subst this
       have e13:(Utf8.encode 13).size=1:=by decide
       have e10:(Utf8.encode 10).size=1:=by decide
       rw [List.take_succ_cons,List.take_succ_cons,List.take_zero,bytesF,bytesF,ByteArray.size_append,ByteArray.size_append,e13,e10]
       rfl
    ·rw [if_neg (fun h=>hk (key.1 h)),if_neg hk,List.take_succ_cons,List.take_zero,hone]
   ·rw [if_neg (by rintro (e | e);exact hnb e;exact ha e),if_neg ha,List.take_succ_cons]
    have:=more_runes x 31 1 x [x] t (fun r hr=>h r (by simp [hr]))
    rw [hone] at this
    exact this
def sameP (x y:Int):Prop:=aloneB x=aloneB y∧(kindI x=2↔kindI y=2)∧joinerB x=joinerB y∧regionalB x=regionalB y∧pictureB x=pictureB y∧partI x=partI y∧(x=8205↔y=8205)∧(x=13↔y=13)∧(x=10↔y=10)
theorem sameP.refl (x:Int):sameP x x:=⟨rfl,Iff.rfl,rfl,rfl,rfl,rfl,Iff.rfl,Iff.rfl,Iff.rfl⟩
theorem goes_same {x z y x' z' y':Int} (hx:sameP x x') (hz:sameP z z') (hy:sameP y y') (n:Nat):goesOn x z y n=goesOn x' z' y' n:=by
 obtain⟨_,_,_,x4,x5,_,_,_,_⟩:=hx
 obtain⟨_,_,_,_,_,z6,z7,_,_⟩:=hz
 obtain⟨_,y2,y3,y4,y5,y6,_,_,_⟩:=hy
 unfold goesOn goesB
 rw [y3,x4,y4,x5,y5,z6,y6,show decide (kindI y=2)=decide (kindI y'=2) from decide_eq_decide.2 y2,show decide (z=8205)=decide (z'=8205) from decide_eq_decide.2 z7]
inductive Alike:List Int→List Int→Prop
 | nil:Alike [] []
 | cons {x y:Int} {l m:List Int}:sameP x y→Alike l m→Alike (x::l) (y::m)
theorem Alike.refl:∀l:List Int,Alike l l
 | []=>.nil
 | x::t=>.cons (sameP.refl x) (Alike.refl t)
theorem more_same {x x':Int} (hx:sameP x x'):∀(f:Nat) {l m:List Int} (n:Nat) {z z':Int},Alike l m→sameP z z'→moreR x f l n z=moreR x' f m n z'
 | 0,_,_,_,_,_,_,_=>rfl
 | f+1,_,_,n,z,z',.nil,hz=>rfl
 | f+1,_,_,n,z,z',.cons (x:=y) (y:=y') h t,hz=>by rw [moreR,moreR,goes_same hx hz h n,more_same hx f (n+1) t h]
theorem next_same {l m:List Int} (h:Alike l m):nextR l=nextR m:=by
 cases h with
 | nil=>rfl
 | cons hx ht =>
   rename_i x y l m
   rw [nextR,nextR,hx.1,more_same hx 31 1 ht hx]
   have e13:=hx.2.2.2.2.2.2.2.1
   have hh:(l.head? = some 10)↔(m.head? = some 10):=by
    cases ht with
    | nil=>exact Iff.rfl
    | cons h _ =>
      have:=h.2.2.2.2.2.2.2.2
      simp [this]
   have:(x=13∧l.head? = some 10)↔(y=13∧m.head? = some 10):=by rw [e13,hh]
   simp only [this]
theorem Alike.len {l m:List Int} (h:Alike l m):l.length=m.length:=by
 induction h with
 | nil=>rfl
 | cons _ _ ih=>rw [List.length_cons,List.length_cons,ih]
theorem one_cluster {c:ByteArray} (hb:badI c=false) (hn:nextI c=c.size) {own:List Int} (hv:validAll own) (ha:Alike (runesI c) own):nextI (bytesF own)=(bytesF own).size:=by
 have hc:bytesF (runesI c)=c:=good_bytes c.size c (Nat.le_refl _) hb
 have h1:=next_runes (runesI c) (runes_valid c.size c (Nat.le_refl _))
 rw [hc,hn] at h1
 have h2:=bytesF_take_size (runesI c) (nextR (runesI c)) (by rw [←h1,hc])
 rw [next_runes own hv,←next_same ha,List.take_of_length_le (by rw [←ha.len];exact h2)]
end
section
instance (x y:Int):Decidable (sameP x y):=by unfold sameP;exact inferInstance
def mirL:List Int:=brL++[60,65308,62,65310,171,187,8249,8250,8804,8805]
theorem mirL_all:mirL.all (fun r=>decide (sameP r (mirrorI r))&&validRune (mirrorI r))=true:=by decide +kernel
theorem brL_len:brL.length=30:=by decide
theorem mirror_in (r:Int):mirrorI r=r∨r∈mirL:=by
 by_cases h:∃j,j<30∧ith brL j=r
 ·obtain⟨j,hj,e⟩:=h
  right
  unfold mirL
  refine List.mem_append.2 (.inl ?_)
  rw [←e]
  exact List.mem_of_getElem? (ith_get (by rw [brL_len];exact hj))
 ·have hm:=pairI_miss r (fun j hj e=>h ⟨j,hj,e⟩)
  unfold mirrorI
  rw [hm]
  by_cases h2:r∈mirL
  ·exact .inr h2
  ·left
   have h3:r ∉ [60,65308,62,65310,171,187,8249,8250,8804,(8805:Int)]:=fun h=>h2 (List.mem_append.2 (.inr h))
   simp at h3
   obtain⟨a1,a2,a3,a4,a5,a6,a7,a8,a9,a10⟩:=h3
   rw [if_neg (by decide),if_neg (by rintro (e | e);exact a1 e;exact a2 e),if_neg (by rintro (e | e);exact a3 e;exact a4 e),if_neg a5,if_neg a6,if_neg (by rintro (e | e);exact a7 e;exact a8 e),if_neg (by rintro (e | e);exact a9 e;exact a10 e)]
theorem mirror_same (r:Int):sameP r (mirrorI r):=by
 rcases mirror_in r with h | h
 ·rw [h];exact sameP.refl r
 ·have:=List.all_eq_true.1 mirL_all r h
  rw [Bool.and_eq_true,decide_eq_true_eq] at this
  exact this.1
theorem mirror_valid (r:Int) (hv:validRune r=true):validRune (mirrorI r)=true:=by
 rcases mirror_in r with h | h
 ·rw [h];exact hv
 ·have:=List.all_eq_true.1 mirL_all r h
  rw [Bool.and_eq_true] at this
  exact this.2
end
end Go.Proofs.YtlmjbfncopbilaaGreatDoor
