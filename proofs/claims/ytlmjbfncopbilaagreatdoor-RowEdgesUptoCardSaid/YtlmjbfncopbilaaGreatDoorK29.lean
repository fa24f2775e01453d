/- Part 29 (merged by a program): lemmas of no further condition than each states. -/
import Derived.Test.YtlmjbfncopbilaaGreatDoorK28
namespace Go.Proofs.YtlmjbfncopbilaaGreatDoor
set_option linter.unusedVariables false
set_option linter.unusedSimpArgs false
section
theorem sameP.trans {x y z:Int} (h:sameP x y) (k:sameP y z):sameP x z:=by
 obtain⟨a1,a2,a3,a4,a5,a6,a7,a8,a9⟩:=h
 obtain⟨b1,b2,b3,b4,b5,b6,b7,b8,b9⟩:=k
 exact⟨a1.trans b1,a2.trans b2,a3.trans b3,a4.trans b4,a5.trans b5,a6.trans b6,a7.trans b7,a8.trans b8,a9.trans b9⟩
theorem shp_all:(List.range 42).all (fun k=>[0,1,2,3].all fun f=>decide (sameP (1569+(k:Int)) (shapeI (1569+(k:Int)) f))&&validRune (shapeI (1569+(k:Int)) f))=true:=by decide +kernel
theorem shape_in (r form:Int):shapeI r form=r∨∃k,k<42∧r=1569+((k:Nat):Int)∧∃f∈[0,1,2,(3:Int)],shapeI r form=shapeI r f:=by
 by_cases h:r<1569∨1610<r
 ·left
  unfold shapeI
  rw [if_pos (by unfold fstI;rw [if_pos h])]
 ·right
  refine⟨(r-1569).toNat,by omega,by omega,?_⟩
  by_cases h3:form=3
  ·exact⟨3,by simp,by rw [h3]⟩
  ·by_cases h1:form=1
   ·exact⟨1,by simp,by rw [h1]⟩
   ·by_cases h2:form=2
    ·exact⟨2,by simp,by rw [h2]⟩
    ·refine⟨0,by simp,?_⟩
     unfold shapeI
     simp only [h1,h2,h3,if_false,false_or]
     rfl
theorem shape_same (r form:Int):sameP r (shapeI r form):=by
 rcases shape_in r form with h | ⟨k,hk,hr,f,hf,h⟩
 ·rw [h];exact sameP.refl r
 ·have h1:=List.all_eq_true.1 shp_all k (List.mem_range.2 hk)
  have h2:=List.all_eq_true.1 h1 f hf
  rw [Bool.and_eq_true,decide_eq_true_eq,←hr] at h2
  rw [h]
  exact h2.1
theorem shape_valid (r form:Int) (hv:validRune r=true):validRune (shapeI r form)=true:=by
 rcases shape_in r form with h | ⟨k,hk,hr,f,hf,h⟩
 ·rw [h];exact hv
 ·have h1:=List.all_eq_true.1 shp_all k (List.mem_range.2 hk)
  have h2:=List.all_eq_true.1 h1 f hf
  rw [Bool.and_eq_true,←hr] at h2
  rw [h]
  exact h2.2
theorem alike_of:∀(l m:List Int),l.length=m.length→(∀i,i<l.length→sameP (ith l i) (ith m i))→Alike l m
 | [],[],_,_=>.nil
 | [],_::_,h,_=>by cases h
 | _::_,[],h,_=>by cases h
 | x::l,y::m,h,hs=>.cons (hs 0 (by simp)) (alike_of l m (by simpa using h) (fun i hi=>hs (i+1) (by simp;omega)))
theorem piece_one (s:ByteArray):∀(f a:Nat),a≤s.size→∀q∈piecesF s f a,nextI q.2=q.2.size
 | 0,a,ha,q,hq=>by simp [piecesF] at hq
 | f+1,a,ha,q,hq=>by
   rw [piecesF] at hq
   by_cases h:a<s.size
   ·rw [if_pos h] at hq
    have hz:=ext_size s a ha
    have hn:=nextI_bd (s.extract a s.size) (by omega)
    rcases List.mem_cons.1 hq with rfl | hq
    ·have e:s.extract a (a+nextI (s.extract a s.size))=(s.extract a s.size).extract 0 (nextI (s.extract a s.size)):=by
      rw [ByteArray.extract_extract]
      congr 1
      omega
     have hs:(s.extract a (a+nextI (s.extract a s.size))).size=nextI (s.extract a s.size):=by simp [ByteArray.size_extract];omega
     show nextI (s.extract a (a+nextI (s.extract a s.size)))=(s.extract a (a+nextI (s.extract a s.size))).size
     rw [hs]
     conv=>lhs;rw [e]
     exact next_cut _ _ (by omega) (Nat.le_refl _)
    ·exact piece_one s f _ (by omega) q hq
   ·rw [if_neg h] at hq;cases hq
theorem shaped_ith (cs:List Int) (i:Nat) (h:i<cs.length):ith (shapedI cs) i=shapeI (ith cs i) (ith (formsI cs) i):=by
 unfold shapedI
 conv=>lhs;unfold ith
 rw [List.getD_eq_getElem?_getD,List.getElem?_map,List.getElem?_range h]
 rfl
theorem made_same (s:ByteArray) (join:Bool) (fr tt i:Nat) (h:i<(runesI (s.extract fr tt)).length):sameP (ith (runesI (s.extract fr tt)) i) (ith (madeI s join fr tt) i)∧validRune (ith (madeI s join fr tt) i)=true:=by
 have hv:validRune (ith (runesI (s.extract fr tt)) i)=true:=runes_valid _ (s.extract fr tt) (Nat.le_refl _) _ (List.mem_of_getElem? (ith_get h))
 unfold madeI
 split
 ·rw [shaped_ith _ _ h]
  exact⟨shape_same _ _,shape_valid _ _ hv⟩
 ·exact⟨sameP.refl _,hv⟩
theorem ith_cut (l:List Int) (a n i:Nat) (h:i<n):ith ((l.drop a).take n) i=ith l (a+i):=by
 unfold ith
 rw [List.getD_eq_getElem?_getD,List.getElem?_take,if_pos h,List.getElem?_drop,List.getD_eq_getElem?_getD]
theorem become_one {T:ByteArray} (hT:nextI T=T.size) {own:List Int} (odd:Bool) (ha:Alike (runesI T) own) (hv:validAll own):nextI (becomeI T own odd)=(becomeI T own odd).size:=by
 unfold becomeI
 by_cases hb:badI T=true
 ·rw [if_pos hb];exact hT
 ·have hb':badI T=false:=by simpa using hb
  rw [if_neg hb]
  cases odd with
  | false=>rw [if_neg (by decide)];exact one_cluster hb' hT hv ha
  | true =>
    rw [if_pos rfl]
    cases own with
    | nil =>
      have h0:T.size=0:=by
       have h1:=good_bytes T.size T (Nat.le_refl _) hb'
       have h2:=ha.len
       rw [List.length_eq_zero_iff.1 (h2.trans rfl)] at h1
       rw [←h1];rfl
      have e1:T=⟨#[]⟩:=ByteArray.ext (Array.eq_empty_of_size_eq_zero h0)
      have h2:Alike (runesI (bytesF [mirrorI (ith [] 0)])) [mirrorI (ith [] 0)]:=by
       rw [bytes_runes [mirrorI (ith [] 0)] (fun x hx=>by
        rw [List.mem_singleton] at hx
        rw [hx]
        exact mirror_valid _ (by decide))]
       exact Alike.refl _
      rw [List.tail_nil]
      decide +kernel
    | cons y t =>
      cases hr:runesI T with
      | nil=>rw [hr] at ha;cases ha
      | cons x l =>
        rw [hr] at ha
        cases ha with
        | cons h1 h2 =>
          refine one_cluster hb' hT (own:=mirrorI y::t) (fun z hz=>?_) (by rw [hr];exact .cons (h1.trans (mirror_same y)) h2)
          rcases List.mem_cons.1 hz with rfl | hz
          ·exact mirror_valid y (hv y (List.mem_cons_self ..))
          ·exact hv z (List.mem_cons_of_mem _ hz)
theorem lay2_one (s:ByteArray) (want:Int) (join raw:Bool) (ra rl:Int):∀p∈lay2 s want join raw ra rl,nextI p.became=p.became.size:=fun p hp=>by
 unfold lay2 at hp
 obtain⟨p1,hp1,rfl⟩:=List.mem_map.1 hp
 obtain⟨p2,hp2,e⟩:=mem_map_eq (levels_map (fun p=>(p.a,p.size,p.c0,p.c1)) (fun _ _=>rfl) s want raw (rowFr s ra) (foundI s (rowFr s ra) (rowTo s ra rl))) hp1
 simp only [Prod.mk.injEq] at e
 obtain⟨ea,es,e0,e1⟩:=e
 obtain⟨i,hi⟩:=List.mem_iff_getElem?.1 hp2
 obtain⟨kf,hf,_,_⟩:=upB_spec s (rowA s ra) (rowA_le s ra)
 obtain⟨kt,ht,_,_⟩:=upB_spec s (rowB s ra rl) (rowB_le s ra rl).2
 have hft:rowFr s ra≤rowTo s ra rl:=upB_mono s _ _ (rowB_le s ra rl).1 (rowB_le s ra rl).2
 obtain⟨_,_,_,_,g5,g6,g7,_⟩:=found_get (show Bord s (rowFr s ra) kf from hf) (show Bord s (rowTo s ra rl) kt from ht) hft i p2 hi
 have hT:nextI (s.extract p2.a (p2.a+p2.size))=(s.extract p2.a (p2.a+p2.size)).size:=by
  have hm:(p2.a,p2.size,p2.level)∈(inPs s (rowFr s ra) (rowTo s ra rl)).map (fun q=>(q.1,q.2.size,0)):=by
   rw [←findF_map (inPs s (rowFr s ra) (rowTo s ra rl)) 0]
   exact List.mem_map_of_mem (f:=fun p:Pc=>(p.a,p.size,p.level)) hp2
  obtain⟨q,hq,eq⟩:=List.mem_map.1 hm
  simp only [Prod.mk.injEq] at eq
  have h1:=mem_inPs hq
  rw [eq.1,eq.2.1] at h1
  rw [←h1]
  exact piece_one s s.size 0 (Nat.zero_le _) q (List.mem_filter.1 hq).1
 show nextI (becomeI (s.extract p1.a (p1.a+p1.size)) (((madeI s join (rowFr s ra) (rowTo s ra rl)).drop p1.c0).take (p1.c1-p1.c0)) (decide (p1.level % 2=1)))=(becomeI (s.extract p1.a (p1.a+p1.size)) (((madeI s join (rowFr s ra) (rowTo s ra rl)).drop p1.c0).take (p1.c1-p1.c0)) (decide (p1.level % 2=1))).size
 rw [←ea,←es,←e0,←e1]
 have hml:=madeI_len s join (rowFr s ra) (rowTo s ra rl)
 have hol:(((madeI s join (rowFr s ra) (rowTo s ra rl)).drop p2.c0).take (p2.c1-p2.c0)).length=p2.c1-p2.c0:=by rw [List.length_take,List.length_drop];omega
 have hrl:(runesI (s.extract p2.a (p2.a+p2.size))).length=p2.c1-p2.c0:=by rw [←g7,List.length_take,List.length_drop];omega
 refine become_one hT _ (alike_of _ _ (by rw [hrl,hol]) (fun j hj=>?_)) (fun x hx=>?_)
 ·rw [←g7,ith_cut _ _ _ _ (by omega),ith_cut _ _ _ _ (by omega)]
  exact (made_same s join _ _ _ (by omega)).1
 ·obtain⟨j,hj,rfl⟩:=List.mem_iff_getElem.1 hx
  have h1:=ith_get hj
  rw [List.getElem?_eq_getElem hj] at h1
  rw [Option.some.inj h1,ith_cut _ _ _ _ (by omega)]
  exact (made_same s join _ _ _ (by omega)).2
theorem lay_good (s:ByteArray) (tab want:Int) (wideA join raw:Bool) (ra rl rw:Int):∀p∈layL s tab want wideA join raw ra rl rw,GoodP p:=fun p hp hw=>by
 obtain⟨q,hq,e⟩:=mem_map_eq (edgeF_map (fun p:Pc=>(p.became,p.shown,p.wide)) (fun _ _ _=>rfl) (laySeen s want join raw ra rl) 0 (lay3 s tab want wideA join raw ra rl rw).1) hp
 simp only [Prod.mk.injEq] at e
 obtain⟨eb,es,ew⟩:=e
 have key:GoodT q.became (q.shown,q.wide):=by
  obtain⟨j,hj,e⟩:=List.mem_iff_getElem.1 hq
  unfold lay3 at hj e
  have hj2:=hj
  rw [layF_len] at hj2
  obtain⟨p0,hp0⟩:∃p0,(lay2 s want join raw ra rl)[j]? = some p0:=⟨_,List.getElem?_eq_getElem hj2⟩
  obtain⟨q',hq',hl⟩:=layF_get rw tab wideA raw _ 0 0 (tailF s (lay2 s want join raw ra rl) (lay2 s want join raw ra rl).length) j p0 hp0
  rw [List.getElem?_eq_getElem hj,e] at hq'
  have:=Option.some.inj hq'
  subst this
  rcases hl with rfl | ⟨x,rfl⟩
  ·intro h
   have:=lay2_wide s want join raw ra rl q (List.mem_of_getElem? hp0)
   dsimp only at h
   omega
  ·exact text_good p0.became (lay2_one s want join raw ra rl p0 (List.mem_of_getElem? hp0)) x tab wideA raw
 rw [eb,es,ew] at key
 obtain⟨h1,h2⟩:=key hw
 refine⟨h1,?_⟩
 rcases h2 with h | h | h
 ·left;unfold wholeB;rw [decide_eq_true h];rfl
 ·left;unfold wholeB;rw [h];simp
 ·exact .inr h
end
section
theorem order_nodup (ls:List Nat):(orderI ls).Nodup:=by
 unfold orderI listOf
 rw [List.nodup_iff_pairwise_ne,List.pairwise_map]
 refine (List.nodup_iff_pairwise_ne.1 List.nodup_range).imp (fun {a b} hab he=>hab ?_)
 have he:oF (lvF ls) ls.length (0+1) (topF ls ls.length) a=oF (lvF ls) ls.length (0+1) (topF ls ls.length) b:=by
  have:((oF (lvF ls) ls.length (0+1) (topF ls ls.length) a:Nat):Int)=(oF (lvF ls) ls.length (0+1) (topF ls ls.length) b:Nat):=he
  exact_mod_cast this
 rw [←tF_oF (lvF ls) ls.length (topF ls ls.length) (0+1) a,he,tF_oF]
theorem order_mem (ls:List Nat):∀i∈orderI ls,0≤i∧i.toNat<ls.length:=fun i hi=>by
 obtain⟨k,hk⟩:=List.mem_iff_getElem?.1 hi
 have hkl:=(List.getElem?_eq_some_iff.1 hk).1
 rw [order_len] at hkl
 obtain⟨j,hj,e⟩:=seen_get ls ls.length k rfl hkl
 rw [e] at hk
 have:=Option.some.inj hk
 omega
end
section
def wsL (L:List Pc):List Int→Int
 | []=>0
 | i::t=>(L.getD i.toNat default).wide+wsL L t
theorem edgeF_not (j:Nat):∀(o:List Int) (x:Int) (L:List Pc),(∀i∈o,i.toNat≠j)→(edgeF o x L).getD j default=L.getD j default
 | [],_,_,_=>rfl
 | i::t,x,L,h=>by
   rw [edgeF,edgeF_not j t _ _ (fun k hk=>h k (List.mem_cons_of_mem _ hk)),List.getD_eq_getElem?_getD,List.getElem?_set_ne (h i (List.mem_cons_self ..)),←List.getD_eq_getElem?_getD]
theorem set_wide (L:List Pc) (i j:Nat) (a b:Int):((L.set i { L.getD i default with e0:=a,e1:=b }).getD j default).wide=(L.getD j default).wide:=by
 rw [List.getD_eq_getElem?_getD,List.getElem?_set]
 by_cases h:i=j
 ·subst h
  rw [if_pos rfl]
  by_cases hl:i<L.length
  ·rw [if_pos hl]
   rfl
  ·rw [if_neg hl,List.getD_eq_getElem?_getD,List.getElem?_eq_none (by omega)]
 ·rw [if_neg h,←List.getD_eq_getElem?_getD]
theorem wsL_set (L:List Pc) (i:Nat) (a b:Int):∀o:List Int,wsL (L.set i { L.getD i default with e0:=a,e1:=b }) o=wsL L o
 | []=>rfl
 | k::t=>by rw [wsL,wsL,set_wide,wsL_set L i a b t]
theorem wsL_nn (L:List Pc) (h:∀j:Nat,0≤(L.getD j default).wide):∀o:List Int,0≤wsL L o
 | []=>Int.le_refl _
 | k::t=>by
   rw [wsL]
   have:=wsL_nn L h t
   have:=h k.toNat
   omega
theorem edgeF_bd:∀(o:List Int) (x:Int) (L:List Pc),o.Nodup→(∀i∈o,0≤i∧i.toNat<L.length)→(∀j:Nat,0≤(L.getD j default).wide) →
 ∀i∈o,x≤((edgeF o x L).getD i.toNat default).e0∧((edgeF o x L).getD i.toNat default).e0≤((edgeF o x L).getD i.toNat default).e1∧((edgeF o x L).getD i.toNat default).e1≤x+wsL L o
 | [],_,_,_,_,_,i,hi=>by cases hi
 | k::t,x,L,hd,hm,hw,i,hi=>by
   obtain⟨hd1,hd2⟩:=List.nodup_cons.1 hd
   have hk:=hm k (List.mem_cons_self ..)
   have hwk:=hw k.toNat
   rw [edgeF,wsL]
   by_cases hik:i=k
   ·subst hik
    have hnot:∀j∈t,j.toNat≠i.toNat:=fun j hj e=>by
     have hj0:=hm j (List.mem_cons_of_mem _ hj)
     have:j=i:=by omega
     exact hd1 (this▸hj)
    rw [edgeF_not i.toNat t _ _ hnot]
    have hg:((L.set i.toNat { L.getD i.toNat default with e0:=x,e1:=x+(L.getD i.toNat default).wide }).getD i.toNat default)={ L.getD i.toNat default with e0:=x,e1:=x+(L.getD i.toNat default).wide }:=by
     rw [List.getD_eq_getElem?_getD,List.getElem?_set,if_pos rfl,if_pos hk.2]
     rfl
    rw [hg]
    have hn:=wsL_nn L hw t
    refine⟨Int.le_refl _,?_,?_⟩
    ·show x≤x+_
     omega
    ·show x+_≤_
     omega
   ·have hit:i∈t:=by
     rcases List.mem_cons.1 hi with e | h
     ·exact absurd e hik
     ·exact h
    have ih:=edgeF_bd t (x+(L.getD k.toNat default).wide) (L.set k.toNat { L.getD k.toNat default with e0:=x,e1:=x+(L.getD k.toNat default).wide }) hd2
     (fun j hj=>by rw [List.length_set];exact hm j (List.mem_cons_of_mem _ hj)) (fun j=>by rw [set_wide];exact hw j) i hit
    rw [wsL_set] at ih
    obtain⟨h1,h2,h3⟩:=ih
    exact⟨by omega,h2,by omega⟩
theorem all_below:∀(n:Nat) (o:List Nat),o.Nodup→(∀i∈o,i<n)→o.length≤n∧(o.length=n→∀f:Nat→Int,(o.map f).foldr (·+·) 0=((List.range n).map f).foldr (·+·) 0)
 | 0,o,_,hm=>by
   have:o=[]:=by
    cases o with
    | nil=>rfl
    | cons a t=>exact absurd (hm a (List.mem_cons_self ..)) (Nat.not_lt_zero _)
   subst this
   exact⟨Nat.le_refl _,fun _ _=>rfl⟩
 | n+1,o,hd,hm=>by
   have fold:∀(l:List Int) (z:Int),l.foldr (·+·) z=l.foldr (·+·) 0+z:=fun l=>by
    induction l with
    | nil=>intro z;simp
    | cons a t ih=>intro z;rw [List.foldr_cons,List.foldr_cons,ih z];omega
   have hperm:∀(l m:List Nat),l.Perm m→∀f:Nat→Int,(l.map f).foldr (·+·) 0=(m.map f).foldr (·+·) 0:=fun l m h f=>by
    induction h with
    | nil=>rfl
    | cons x _ ih=>rw [List.map_cons,List.map_cons,List.foldr_cons,List.foldr_cons,ih]
    | swap x y l=>simp only [List.map_cons,List.foldr_cons];omega
    | trans _ _ ih1 ih2=>rw [ih1,ih2]
   by_cases h:n∈o
   ·have hp:=List.perm_cons_erase h
    have hl:=List.length_erase_of_mem h
    have hpos:0<o.length:=List.length_pos_of_mem h
    obtain⟨i1,i2⟩:=all_below n (o.erase n) (hd.erase n) (fun i hi=>by
     have h1:=hm i (List.mem_of_mem_erase hi)
     have h2:i≠n:=((List.Nodup.mem_erase_iff hd).1 hi).1
     omega)
    refine⟨by omega,fun e f=>?_⟩
    rw [hperm _ _ hp f,List.map_cons,List.foldr_cons,i2 (by omega) f,List.range_succ,List.map_append,List.foldr_append,List.map_singleton,fold _ (([f n]:List Int).foldr (·+·) 0)]
    show f n+_=_+(f n+0)
    omega
   ·obtain⟨i1,_⟩:=all_below n o hd (fun i hi=>by
     have h1:=hm i hi
     have h2:i≠n:=fun e=>h (e▸hi)
     omega)
    exact⟨by omega,fun e=>absurd e (by omega)⟩
theorem wsL_fold (L:List Pc):∀o:List Int,wsL L o=((o.map Int.toNat).map (fun j=>(L.getD j default).wide)).foldr (·+·) 0
 | []=>rfl
 | i::t=>by rw [wsL,wsL_fold L t];rfl
theorem wsum_fold:∀(L:List Pc),wsum L=((List.range L.length).map (fun j=>(L.getD j default).wide)).foldr (·+·) 0
 | []=>rfl
 | p::t=>by
   rw [wsum,wsum_fold t,List.length_cons,List.range_succ_eq_map,List.map_cons,List.foldr_cons,List.map_map]
   rfl
theorem wsL_all (L:List Pc) (o:List Int) (hd:o.Nodup) (hm:∀i∈o,0≤i∧i.toNat<L.length) (hl:o.length=L.length):wsL L o=wsum L:=by
 have hd2:(o.map Int.toNat).Nodup:=by
  rw [List.nodup_iff_pairwise_ne,List.pairwise_map]
  refine List.Pairwise.imp_of_mem ?_ (List.nodup_iff_pairwise_ne.1 hd)
  intro a b ha hb hab e
  have h1:=(hm a ha).1
  have h2:=(hm b hb).1
  exact hab (by omega)
 have:=(all_below L.length (o.map Int.toNat) hd2 (fun i hi=>by
  obtain⟨a,ha,rfl⟩:=List.mem_map.1 hi
  exact (hm a ha).2)).2 (by rw [List.length_map,hl]) (fun j=>(L.getD j default).wide)
 rw [wsL_fold,wsum_fold]
 exact this
theorem cellsF_len (L:List Pc) (h:∀j:Nat,0≤(L.getD j default).wide):∀o:List Int,((cellsF L o).length:Int)=wsL L o
 | []=>rfl
 | i::t=>by
   have ih:=cellsF_len L h t
   have hw:=h i.toNat
   rw [cellsF,List.length_append,wsL,Int.natCast_add,ih]
   congr 1
   split
   ·rw [cellsP_len]
    omega
   ·show (0:Int)=_
    omega
section
variable (s:ByteArray) (tab want:Int) (wideA join raw:Bool) (ra rl rw:Int)
theorem layL_nn (j:Nat):0≤((layL s tab want wideA join raw ra rl rw).getD j default).wide:=by
 rw [List.getD_eq_getElem?_getD]
 cases h:(layL s tab want wideA join raw ra rl rw)[j]? with
 | none=>exact Int.le_refl _
 | some p=>exact (layL_bd s tab want wideA join raw ra rl rw p (List.mem_of_getElem? h)).1
theorem lay3_nn (j:Nat):0≤((lay3 s tab want wideA join raw ra rl rw).1.getD j default).wide:=by
 rw [List.getD_eq_getElem?_getD]
 cases h:(lay3 s tab want wideA join raw ra rl rw).1[j]? with
 | none=>exact Int.le_refl _
 | some p=>exact (lay3_bd s tab want wideA join raw ra rl rw p (List.mem_of_getElem? h)).1
theorem lay3_len:(lay3 s tab want wideA join raw ra rl rw).1.length=(lay2 s want join raw ra rl).length:=by unfold lay3;exact layF_len _ _ _ _ _ _ _ _
theorem seen_facts:(laySeen s want join raw ra rl).Nodup∧(∀i∈laySeen s want join raw ra rl,0≤i∧i.toNat<(lay2 s want join raw ra rl).length)∧(laySeen s want join raw ra rl).length=(lay2 s want join raw ra rl).length:=by
 unfold laySeen
 refine⟨order_nodup _,fun i hi=>?_,by rw [order_len,List.length_map]⟩
 have:=order_mem _ i hi
 rw [List.length_map] at this
 exact this
theorem lay_count:((cellsI (layI s tab want wideA join raw ra rl rw)).length:Int)=(layI s tab want wideA join raw ra rl rw).wide:=by
 obtain⟨h1,h2,h3⟩:=seen_facts s want join raw ra rl
 have hl:=layL_len s tab want wideA join raw ra rl rw
 refine (cellsF_len (layL s tab want wideA join raw ra rl rw) (layL_nn s tab want wideA join raw ra rl rw) (laySeen s want join raw ra rl)).trans ?_
 rw [wsL_all _ _ h1 (fun i hi=>by rw [hl];exact h2 i hi) (by rw [hl];exact h3)]
 exact (lay3_sum s tab want wideA join raw ra rl rw).symm
theorem lay_edges (j:Nat) (hj:j<(layL s tab want wideA join raw ra rl rw).length):0≤((layL s tab want wideA join raw ra rl rw).getD j default).e0∧((layL s tab want wideA join raw ra rl rw).getD j default).e0≤((layL s tab want wideA join raw ra rl rw).getD j default).e1 ∧
 ((layL s tab want wideA join raw ra rl rw).getD j default).e1≤(layI s tab want wideA join raw ra rl rw).wide:=by
 obtain⟨h1,h2,h3⟩:=seen_facts s want join raw ra rl
 have hl:=layL_len s tab want wideA join raw ra rl rw
 have hl3:=lay3_len s tab want wideA join raw ra rl rw
 have hmem:(j:Int)∈laySeen s want join raw ra rl:=by
  refine Classical.byContradiction fun hn=>?_
  have hd2:((laySeen s want join raw ra rl).map Int.toNat).Nodup:=by
   rw [List.nodup_iff_pairwise_ne,List.pairwise_map]
   refine List.Pairwise.imp_of_mem ?_ (List.nodup_iff_pairwise_ne.1 h1)
   intro a b ha hb hab e
   have k1:=(h2 a ha).1
   have k2:=(h2 b hb).1
   exact hab (by omega)
  have hjn:j ∉ (laySeen s want join raw ra rl).map Int.toNat:=fun h=>by
   obtain⟨a,ha,e⟩:=List.mem_map.1 h
   have k1:=(h2 a ha).1
   exact hn (by rw [←e,Int.toNat_of_nonneg k1];exact ha)
  have:=(all_below (lay2 s want join raw ra rl).length (j::(laySeen s want join raw ra rl).map Int.toNat) (List.nodup_cons.2 ⟨hjn,hd2⟩) (fun i hi=>by
   rcases List.mem_cons.1 hi with rfl | hi
   ·omega
   ·obtain⟨a,ha,rfl⟩:=List.mem_map.1 hi
    exact (h2 a ha).2)).1
  rw [List.length_cons,List.length_map] at this
  omega
 have hb:=edgeF_bd (laySeen s want join raw ra rl) 0 (lay3 s tab want wideA join raw ra rl rw).1 h1 (fun i hi=>by rw [hl3];exact h2 i hi) (lay3_nn s tab want wideA join raw ra rl rw) (j:Int) hmem
 obtain⟨b1,b2,b3⟩:=hb
 refine⟨b1,b2,?_⟩
 have hw:wsL (lay3 s tab want wideA join raw ra rl rw).1 (laySeen s want join raw ra rl)=(layI s tab want wideA join raw ra rl rw).wide:=by
  rw [wsL_all _ _ h1 (fun i hi=>by rw [hl3];exact h2 i hi) (by rw [hl3];exact h3)]
  refine Eq.trans ?_ (lay3_sum s tab want wideA join raw ra rl rw).symm
  have hm:=congrArg (fun l:List Int=>l.foldr (·+·) 0) (layL_wide s tab want wideA join raw ra rl rw)
  have hs:∀L:List Pc,wsum L=(L.map (·.wide)).foldr (·+·) 0:=fun L=>by
   induction L with
   | nil=>rfl
   | cons p t ih=>rw [wsum,ih];rfl
  rw [hs,hs]
  exact hm.symm
 rw [←hw]
 have:(0:Int)+wsL (lay3 s tab want wideA join raw ra rl rw).1 (laySeen s want join raw ra rl)=wsL (lay3 s tab want wideA join raw ra rl rw).1 (laySeen s want join raw ra rl):=Int.zero_add _
 rw [this] at b3
 exact b3
theorem lay_wide_nn:0≤(layI s tab want wideA join raw ra rl rw).wide:=by
 rw [←lay_count]
 omega
theorem edge_in (i:Nat) (hi:i≤(layI s tab want wideA join raw ra rl rw).l.length) (back:Bool):0≤edgeI (layI s tab want wideA join raw ra rl rw) i back∧edgeI (layI s tab want wideA join raw ra rl rw) i back≤(layI s tab want wideA join raw ra rl rw).wide:=by
 have hw:=lay_wide_nn s tab want wideA join raw ra rl rw
 have he:=lay_edges s tab want wideA join raw ra rl rw
 have hi2:i≤(layL s tab want wideA join raw ra rl rw).length:=hi
 unfold edgeI
 split
 ·split <;> omega
 ·rename_i h1
  split
  ·rename_i h2
   have h3:i≠0:=fun e=>h1 ⟨h2,e⟩
   have:=he (i-1) (by omega)
   split
   ·exact⟨this.1,Int.le_trans this.2.1 this.2.2⟩
   ·exact⟨Int.le_trans this.1 this.2.1,this.2.2⟩
  ·split
   ·split <;> omega
   ·rename_i h2 h3
    have h3':i≠(layL s tab want wideA join raw ra rl rw).length:=h3
    have:=he i (by omega)
    split
    ·exact⟨Int.le_trans this.1 this.2.1,this.2.2⟩
    ·exact⟨this.1,Int.le_trans this.2.1 this.2.2⟩
theorem layL_pos:(∀p∈layL s tab want wideA join raw ra rl rw,p.a+p.size≤rowTo s ra rl∧0<p.size)∧(layL s tab want wideA join raw ra rl rw=[]→rowFr s ra=rowTo s ra rl):=by
 have h1:(layL s tab want wideA join raw ra rl rw).map (fun p=>(p.a,p.size))=(inPs s (rowFr s ra) (rowTo s ra rl)).map (fun q=>(q.1,q.2.size)):=by
  rw [layL_map (fun p=>(p.a,p.size)) (fun _ _ _=>rfl) (fun _ _ _=>rfl),lay2_map (fun p=>(p.a,p.size)) (fun _ _=>rfl) (fun _ _=>rfl)]
  have:=congrArg (List.map (fun x:Nat × Nat × Nat=>(x.1,x.2.1))) (findF_map (inPs s (rowFr s ra) (rowTo s ra rl)) 0)
  simpa [List.map_map,foundI,Function.comp_def] using this
 obtain⟨kf,hf,_,_⟩:=upB_spec s (rowA s ra) (rowA_le s ra)
 obtain⟨kt,ht,_,_⟩:=upB_spec s (rowB s ra rl) (rowB_le s ra rl).2
 have hft:rowFr s ra≤rowTo s ra rl:=upB_mono s _ _ (rowB_le s ra rl).1 (rowB_le s ra rl).2
 obtain⟨_,_,g3,g4,_⟩:=inPs_spec (show Bord s (rowFr s ra) kf from hf) (show Bord s (rowTo s ra rl) kt from ht) hft
 refine⟨fun p hp=>?_,fun h=>?_⟩
 ·have hm:(p.a,p.size)∈(layL s tab want wideA join raw ra rl rw).map (fun p=>(p.a,p.size)):=List.mem_map.2 ⟨p,hp,rfl⟩
  rw [h1] at hm
  obtain⟨q,hq,e⟩:=List.mem_map.1 hm
  simp only [Prod.mk.injEq] at e
  have:=g4 q hq
  omega
 ·rw [h,List.map_nil] at h1
  have:inPs s (rowFr s ra) (rowTo s ra rl)=[]:=List.map_eq_nil_iff.1 h1.symm
  rw [this] at g3
  exact g3
end
theorem leftF_app (c:Int) (L:List Pc):∀pre:List Pc,(∀p∈pre,((p.a+p.size:Nat):Int)≤c)→leftF c (pre++L)=pre.length+leftF c L
 | [],_=>by simp
 | p::t,h=>by
   rw [List.cons_append,leftF,if_pos (h p (List.mem_cons_self ..)),leftF_app c L t (fun q hq=>h q (List.mem_cons_of_mem _ hq)),List.length_cons]
   omega
theorem stopAt_mem (W:LaidR) (cut:Bool) (i p:Nat) (st:St) (h:st∈stopAt W cut i p):st.a=p∧st.x=edgeI W i st.back:=by
 unfold stopAt at h
 rcases List.mem_append.1 h with h | h
 ·split at h
  ·rcases List.mem_singleton.1 h with rfl
   exact⟨rfl,rfl⟩
  ·cases h
 ·split at h
  ·rcases List.mem_singleton.1 h with rfl
   exact⟨rfl,rfl⟩
  ·cases h
theorem stopsF_place (W:LaidR) (cut:Bool) (hpos:∀p∈W.l,p.a+p.size≤W.tt∧0<p.size) (hpw:W.l.Pairwise (fun p q=>p.a+p.size≤q.a)) :
 ∀(L pre:List Pc),W.l=pre++L→∀st∈stopsF W cut L pre.length,(∃i,i≤W.l.length∧st.x=edgeI W i st.back)∧st.x=placeI W (st.a:Int) st.back
 | [],pre,hW,st,hst=>by
   rw [stopsF] at hst
   obtain⟨h1,h2⟩:=stopAt_mem W cut pre.length W.tt st hst
   rw [List.append_nil] at hW
   refine⟨⟨pre.length,by rw [hW];exact Nat.le_refl _,h2⟩,?_⟩
   unfold placeI
   have:=leftF_app (st.a:Int) [] pre (fun p hp=>by
    have:=(hpos p (by rw [hW];exact hp)).1
    omega)
   rw [List.append_nil,leftF,Nat.add_zero] at this
   rw [hW,this]
   exact h2
 | p::t,pre,hW,st,hst=>by
   rw [stopsF] at hst
   rcases List.mem_append.1 hst with hst | hst
   ·obtain⟨h1,h2⟩:=stopAt_mem W cut pre.length p.a st hst
    refine⟨⟨pre.length,by rw [hW,List.length_append];omega,h2⟩,?_⟩
    unfold placeI
    rw [hW] at hpw
    have hq:=(List.pairwise_append.1 hpw).2.2
    have:=leftF_app (st.a:Int) (p::t) pre (fun q hq'=>by
     have:=hq q hq' p (List.mem_cons_self ..)
     omega)
    have hp0:=(hpos p (by rw [hW];exact List.mem_append_right _ (List.mem_cons_self ..))).2
    rw [leftF,if_neg (by omega),Nat.add_zero] at this
    rw [hW,this]
    exact h2
   ·have:=stopsF_place W cut hpos hpw t (pre++[p]) (by rw [hW];simp) st
    rw [List.length_append] at this
    exact this hst
theorem bestF_spec (x:Int):∀(l:List St) (b:St),(bestF x l b=b∨bestF x l b∈l)∧gapI (bestF x l b).x x≤gapI b.x x∧∀st∈l,gapI (bestF x l b).x x≤gapI st.x x
 | [],b=>⟨.inl rfl,Int.le_refl _,fun st h=>by cases h⟩
 | s::t,b=>by
   rw [bestF]
   by_cases h:gapI s.x x<gapI b.x x
   ·rw [if_pos h]
    obtain⟨h1,h2,h3⟩:=bestF_spec x t s
    refine⟨.inr ?_,by omega,fun st hst=>?_⟩
    ·rcases h1 with h1 | h1
     ·rw [h1];exact List.mem_cons_self ..
     ·exact List.mem_cons_of_mem _ h1
    ·rcases List.mem_cons.1 hst with rfl | hst
     ·exact h2
     ·exact h3 st hst
   ·rw [if_neg h]
    obtain⟨h1,h2,h3⟩:=bestF_spec x t b
    refine⟨?_,h2,fun st hst=>?_⟩
    ·rcases h1 with h1 | h1
     ·exact .inl h1
     ·exact .inr (List.mem_cons_of_mem _ h1)
    ·rcases List.mem_cons.1 hst with rfl | hst
     ·omega
     ·exact h3 st hst
theorem stopsI_isrt (W:LaidR) (fin:Int):stopsI W fin=isrt (rawS W fin):=sortJ_isrt _
theorem hit_spec (W:LaidR) (fin x:Int) (h:stopsI W fin≠[]):hitI W fin x∈stopsI W fin∧∀st∈stopsI W fin,gapI (hitI W fin x).x (min (max x 0) W.wide)≤gapI st.x (min (max x 0) W.wide):=by
 obtain⟨h1,h2,h3⟩:=bestF_spec (min (max x 0) W.wide) (stopsI W fin) ((stopsI W fin).getD 0 default)
 refine⟨?_,h3⟩
 rcases h1 with h1 | h1
 ·unfold hitI
  rw [h1]
  cases e:stopsI W fin with
  | nil=>exact absurd e h
  | cons a t=>exact List.mem_cons_self ..
 ·exact h1
theorem edges_plain (s:ByteArray) (tab want:Int) (wideA join raw:Bool) (ra rl rw fin:Int) (W:LaidR) (hW:W=layI s tab want wideA join raw ra rl rw) :
 stopsI W fin≠[]∧(∀st∈stopsI W fin,placeI W (st.a:Int) st.back=st.x∧0≤st.x∧st.x≤W.wide)∧SrtL (stopsI W fin)∧((cellsI W).length:Int)=W.wide ∧
  (∀x:Int,hitI W fin x∈stopsI W fin∧∀st∈stopsI W fin,gapI (hitI W fin x).x (min (max x 0) W.wide)≤gapI st.x (min (max x 0) W.wide)) ∧
  (∀st∈stopsI W fin,placeI W ((hitI W fin st.x).a:Int) (hitI W fin st.x).back=st.x):=by
 obtain⟨p1,p2⟩:=layL_pos s tab want wideA join raw ra rl rw
 have hpw:=layL_pw s tab want wideA join raw ra rl rw
 have hmem:∀st,st∈stopsI W fin↔st∈rawS W fin:=fun st=>by rw [stopsI_isrt];exact isrt_mem _ st
 have hraw:∀st∈rawS W fin,placeI W (st.a:Int) st.back=st.x∧0≤st.x∧st.x≤W.wide:=fun st hst=>by
  subst hW
  obtain⟨⟨i,hi,he⟩,hp⟩:=stopsF_place (layI s tab want wideA join raw ra rl rw) (cutB fin) p1 hpw (layI s tab want wideA join raw ra rl rw).l [] rfl st hst
  have:=edge_in s tab want wideA join raw ra rl rw i hi st.back
  rw [←he] at this
  exact⟨hp.symm,this⟩
 have hne:stopsI W fin≠[]:=fun e=>by
  have h0:∀st,st ∉ rawS W fin:=fun st h=>by
   have:=(hmem st).2 h
   rw [e] at this
   cases this
  unfold rawS at h0
  cases hl:W.l with
  | nil =>
    rw [hl,stopsF] at h0
    have hft:W.fr=W.tt:=by
     subst hW
     exact p2 hl
    have hA:hasA W (cutB fin) W.tt=true:=by unfold hasA;rw [decide_eq_true hft,Bool.or_true]
    refine h0 ⟨W.tt,false,edgeI W 0 false⟩ ?_
    unfold stopAt
    rw [if_pos hA]
    exact List.mem_append_left _ (List.mem_singleton.2 rfl)
  | cons p t =>
    rw [hl,stopsF] at h0
    have hlt:p.a<W.tt:=by
     subst hW
     have:=p1 p (by
      have hl':layL s tab want wideA join raw ra rl rw=p::t:=hl
      rw [hl']
      exact List.mem_cons_self ..)
     show p.a<rowTo s ra rl
     omega
    have hA:hasA W (cutB fin) p.a=true:=by unfold hasA;rw [decide_eq_true hlt,Bool.true_or,Bool.true_or]
    refine h0 ⟨p.a,false,edgeI W 0 false⟩ (List.mem_append_left _ ?_)
    unfold stopAt
    rw [if_pos hA]
    exact List.mem_append_left _ (List.mem_singleton.2 rfl)
 have hall:∀st∈stopsI W fin,placeI W (st.a:Int) st.back=st.x∧0≤st.x∧st.x≤W.wide:=fun st h=>hraw st ((hmem st).1 h)
 refine⟨hne,hall,by rw [stopsI_isrt];exact isrt_srt _,?_,fun x=>hit_spec W fin x hne,fun st hst=>?_⟩
 ·subst hW
  exact lay_count s tab want wideA join raw ra rl rw
 ·obtain⟨k1,k2⟩:=hit_spec W fin st.x hne
  obtain⟨a1,a2,a3⟩:=hall st hst
  obtain⟨b1,b2,b3⟩:=hall _ k1
  have:=k2 st hst
  rw [b1]
  have hm:min (max st.x 0) W.wide=st.x:=by omega
  rw [hm] at this
  unfold gapI at this
  omega
end
end Go.Proofs.YtlmjbfncopbilaaGreatDoor
