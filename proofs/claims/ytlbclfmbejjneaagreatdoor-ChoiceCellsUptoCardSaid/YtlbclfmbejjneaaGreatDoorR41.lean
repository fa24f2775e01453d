/- Part 41 (merged by a program): lemmas of no further condition than each states. -/
import Derived.StillTailTactics
import Derived.Test.YtlbclfmbejjneaaGreatDoorR40
namespace Go.Proofs.YtlbclfmbejjneaaGreatDoor
set_option linter.unusedVariables false
set_option linter.unusedSimpArgs false
section
theorem sameP.trans {x y z:Int} (h:sameP x y) (k:sameP y z):sameP x z:=by
 obtain⟨a1,a2,a3,a4,a5,a6,a7,a8,a9⟩:=h
 obtain⟨b1,b2,b3,b4,b5,b6,b7,b8,b9⟩:=k
 exact⟨a1.trans b1,a2.trans b2,a3.trans b3,a4.trans b4,a5.trans b5,a6.trans b6,a7.trans b7,a8.trans b8,a9.trans b9⟩
theorem shp_all:(List.range 42).all (fun k=>[0,1,2,3].all fun f=>decide (sameP (1569+(k:Int)) (shapeI (1569+(k:Int)) f))&&validRune (shapeI (1569+(k:Int)) f))=true:=by decide +kernel
theorem shape_in (r form:Int):shapeI r form=r∨∃k,k<42∧r=1569+((k:Nat):Int)∧∃f∈[0,1,2,(3:Int)],shapeI r form=shapeI r f:=by
 by_cases h:r<1569∨1610<r
 ·left
  unfold shapeI
  rw [if_pos (by unfold fstI;rw [if_pos h])]
 ·right
  refine⟨(r-1569).toNat,by omega,by omega,?_⟩
  by_cases h3:form=3
  ·exact⟨3,by simp,by rw [h3]⟩
  ·by_cases h1:form=1
   ·exact⟨1,by simp,by rw [h1]⟩
   ·by_cases h2:form=2
    ·exact⟨2,by simp,by rw [h2]⟩
    ·refine⟨0,by simp,?_⟩
     unfold shapeI
     simp only [h1,h2,h3,if_false,false_or]
     rfl
theorem shape_same (r form:Int):sameP r (shapeI r form):=by
 rcases shape_in r form with h | ⟨k,hk,hr,f,hf,h⟩
 ·rw [h];exact sameP.refl r
 ·have h1:=List.all_eq_true.1 shp_all k (List.mem_range.2 hk)
  have h2:=List.all_eq_true.1 h1 f hf
  rw [Bool.and_eq_true,decide_eq_true_eq,←hr] at h2
  rw [h]
  exact h2.1
theorem shape_valid (r form:Int) (hv:validRune r=true):validRune (shapeI r form)=true:=by
 rcases shape_in r form with h | ⟨k,hk,hr,f,hf,h⟩
 ·rw [h];exact hv
 ·have h1:=List.all_eq_true.1 shp_all k (List.mem_range.2 hk)
  have h2:=List.all_eq_true.1 h1 f hf
  rw [Bool.and_eq_true,←hr] at h2
  rw [h]
  exact h2.2
theorem alike_of:∀(l m:List Int),l.length=m.length→(∀i,i<l.length→sameP (ith l i) (ith m i))→Alike l m
 | [],[],_,_=>.nil
 | [],_::_,h,_=>by cases h
 | _::_,[],h,_=>by cases h
 | x::l,y::m,h,hs=>.cons (hs 0 (by simp)) (alike_of l m (by simpa using h) (fun i hi=>hs (i+1) (by simp;omega)))
theorem piece_one (s:ByteArray):∀(f a:Nat),a≤s.size→∀q∈piecesF s f a,nextI q.2=q.2.size
 | 0,a,ha,q,hq=>by simp [piecesF] at hq
 | f+1,a,ha,q,hq=>by
   rw [piecesF] at hq
   by_cases h:a<s.size
   ·rw [if_pos h] at hq
    have hz:=ext_size s a ha
    have hn:=nextI_bd (s.extract a s.size) (by omega)
    rcases List.mem_cons.1 hq with rfl | hq
    ·have e:s.extract a (a+nextI (s.extract a s.size))=(s.extract a s.size).extract 0 (nextI (s.extract a s.size)):=by
      rw [ByteArray.extract_extract]
      congr 1
      omega
     have hs:(s.extract a (a+nextI (s.extract a s.size))).size=nextI (s.extract a s.size):=by simp [ByteArray.size_extract];omega
     show nextI (s.extract a (a+nextI (s.extract a s.size)))=(s.extract a (a+nextI (s.extract a s.size))).size
     rw [hs]
     conv=>lhs;rw [e]
     exact next_cut _ _ (by omega) (Nat.le_refl _)
    ·exact piece_one s f _ (by omega) q hq
   ·rw [if_neg h] at hq;cases hq
theorem shaped_ith (cs:List Int) (i:Nat) (h:i<cs.length):ith (shapedI cs) i=shapeI (ith cs i) (ith (formsI cs) i):=by
 unfold shapedI
 conv=>lhs;unfold ith
 rw [List.getD_eq_getElem?_getD,List.getElem?_map,List.getElem?_range h]
 rfl
theorem made_same (s:ByteArray) (join:Bool) (fr tt i:Nat) (h:i<(runesI (s.extract fr tt)).length):sameP (ith (runesI (s.extract fr tt)) i) (ith (madeI s join fr tt) i)∧validRune (ith (madeI s join fr tt) i)=true:=by
 have hv:validRune (ith (runesI (s.extract fr tt)) i)=true:=runes_valid _ (s.extract fr tt) (Nat.le_refl _) _ (List.mem_of_getElem? (ith_get h))
 unfold madeI
 split
 ·rw [shaped_ith _ _ h]
  exact⟨shape_same _ _,shape_valid _ _ hv⟩
 ·exact⟨sameP.refl _,hv⟩
theorem ith_cut (l:List Int) (a n i:Nat) (h:i<n):ith ((l.drop a).take n) i=ith l (a+i):=by
 unfold ith
 rw [List.getD_eq_getElem?_getD,List.getElem?_take,if_pos h,List.getElem?_drop,List.getD_eq_getElem?_getD]
theorem become_one {T:ByteArray} (hT:nextI T=T.size) {own:List Int} (odd:Bool) (ha:Alike (runesI T) own) (hv:validAll own):nextI (becomeI T own odd)=(becomeI T own odd).size:=by
 unfold becomeI
 by_cases hb:badI T=true
 ·rw [if_pos hb];exact hT
 ·have hb':badI T=false:=by simpa using hb
  rw [if_neg hb]
  cases odd with
  | false=>rw [if_neg (by decide)];exact one_cluster hb' hT hv ha
  | true =>
    rw [if_pos rfl]
    cases own with
    | nil =>
      have h0:T.size=0:=by
       have h1:=good_bytes T.size T (Nat.le_refl _) hb'
       have h2:=ha.len
       rw [List.length_eq_zero_iff.1 (h2.trans rfl)] at h1
       rw [←h1];rfl
      have e1:T=⟨#[]⟩:=ByteArray.ext (Array.eq_empty_of_size_eq_zero h0)
      have h2:Alike (runesI (bytesF [mirrorI (ith [] 0)])) [mirrorI (ith [] 0)]:=by
       rw [bytes_runes [mirrorI (ith [] 0)] (fun x hx=>by
        rw [List.mem_singleton] at hx
        rw [hx]
        exact mirror_valid _ (by decide))]
       exact Alike.refl _
      rw [List.tail_nil]
      decide +kernel
    | cons y t =>
      cases hr:runesI T with
      | nil=>rw [hr] at ha;cases ha
      | cons x l =>
        rw [hr] at ha
        cases ha with
        | cons h1 h2 =>
          refine one_cluster hb' hT (own:=mirrorI y::t) (fun z hz=>?_) (by rw [hr];exact .cons (h1.trans (mirror_same y)) h2)
          rcases List.mem_cons.1 hz with rfl | hz
          ·exact mirror_valid y (hv y (List.mem_cons_self ..))
          ·exact hv z (List.mem_cons_of_mem _ hz)
theorem lay2_one (s:ByteArray) (want:Int) (join raw:Bool) (ra rl:Int):∀p∈lay2 s want join raw ra rl,nextI p.became=p.became.size:=fun p hp=>by
 unfold lay2 at hp
 obtain⟨p1,hp1,rfl⟩:=List.mem_map.1 hp
 obtain⟨p2,hp2,e⟩:=mem_map_eq (levels_map (fun p=>(p.a,p.size,p.c0,p.c1)) (fun _ _=>rfl) s want raw (rowFr s ra) (foundI s (rowFr s ra) (rowTo s ra rl))) hp1
 simp only [Prod.mk.injEq] at e
 obtain⟨ea,es,e0,e1⟩:=e
 obtain⟨i,hi⟩:=List.mem_iff_getElem?.1 hp2
 obtain⟨kf,hf,_,_⟩:=upB_spec s (rowA s ra) (rowA_le s ra)
 obtain⟨kt,ht,_,_⟩:=upB_spec s (rowB s ra rl) (rowB_le s ra rl).2
 have hft:rowFr s ra≤rowTo s ra rl:=upB_mono s _ _ (rowB_le s ra rl).1 (rowB_le s ra rl).2
 obtain⟨_,_,_,_,g5,g6,g7,_⟩:=found_get (show Bord s (rowFr s ra) kf from hf) (show Bord s (rowTo s ra rl) kt from ht) hft i p2 hi
 have hT:nextI (s.extract p2.a (p2.a+p2.size))=(s.extract p2.a (p2.a+p2.size)).size:=by
  have hm:(p2.a,p2.size,p2.level)∈(inPs s (rowFr s ra) (rowTo s ra rl)).map (fun q=>(q.1,q.2.size,0)):=by
   rw [←findF_map (inPs s (rowFr s ra) (rowTo s ra rl)) 0]
   exact List.mem_map_of_mem (f:=fun p:Pc=>(p.a,p.size,p.level)) hp2
  obtain⟨q,hq,eq⟩:=List.mem_map.1 hm
  simp only [Prod.mk.injEq] at eq
  have h1:=mem_inPs hq
  rw [eq.1,eq.2.1] at h1
  rw [←h1]
  exact piece_one s s.size 0 (Nat.zero_le _) q (List.mem_filter.1 hq).1
 show nextI (becomeI (s.extract p1.a (p1.a+p1.size)) (((madeI s join (rowFr s ra) (rowTo s ra rl)).drop p1.c0).take (p1.c1-p1.c0)) (decide (p1.level % 2=1)))=(becomeI (s.extract p1.a (p1.a+p1.size)) (((madeI s join (rowFr s ra) (rowTo s ra rl)).drop p1.c0).take (p1.c1-p1.c0)) (decide (p1.level % 2=1))).size
 rw [←ea,←es,←e0,←e1]
 have hml:=madeI_len s join (rowFr s ra) (rowTo s ra rl)
 have hol:(((madeI s join (rowFr s ra) (rowTo s ra rl)).drop p2.c0).take (p2.c1-p2.c0)).length=p2.c1-p2.c0:=by rw [List.length_take,List.length_drop];omega
 have hrl:(runesI (s.extract p2.a (p2.a+p2.size))).length=p2.c1-p2.c0:=by rw [←g7,List.length_take,List.length_drop];omega
 refine become_one hT _ (alike_of _ _ (by rw [hrl,hol]) (fun j hj=>?_)) (fun x hx=>?_)
 ·rw [←g7,ith_cut _ _ _ _ (by omega),ith_cut _ _ _ _ (by omega)]
  exact (made_same s join _ _ _ (by omega)).1
 ·obtain⟨j,hj,rfl⟩:=List.mem_iff_getElem.1 hx
  have h1:=ith_get hj
  rw [List.getElem?_eq_getElem hj] at h1
  rw [Option.some.inj h1,ith_cut _ _ _ _ (by omega)]
  exact (made_same s join _ _ _ (by omega)).2
theorem lay_good (s:ByteArray) (tab want:Int) (wideA join raw:Bool) (ra rl rw:Int):∀p∈layL s tab want wideA join raw ra rl rw,GoodP p:=fun p hp hw=>by
 obtain⟨q,hq,e⟩:=mem_map_eq (edgeF_map (fun p:Pc=>(p.became,p.shown,p.wide)) (fun _ _ _=>rfl) (laySeen s want join raw ra rl) 0 (lay3 s tab want wideA join raw ra rl rw).1) hp
 simp only [Prod.mk.injEq] at e
 obtain⟨eb,es,ew⟩:=e
 have key:GoodT q.became (q.shown,q.wide):=by
  obtain⟨j,hj,e⟩:=List.mem_iff_getElem.1 hq
  unfold lay3 at hj e
  have hj2:=hj
  rw [layF_len] at hj2
  obtain⟨p0,hp0⟩:∃p0,(lay2 s want join raw ra rl)[j]? = some p0:=⟨_,List.getElem?_eq_getElem hj2⟩
  obtain⟨q',hq',hl⟩:=layF_get rw tab wideA raw _ 0 0 (tailF s (lay2 s want join raw ra rl) (lay2 s want join raw ra rl).length) j p0 hp0
  rw [List.getElem?_eq_getElem hj,e] at hq'
  have:=Option.some.inj hq'
  subst this
  rcases hl with rfl | ⟨x,rfl⟩
  ·intro h
   have:=lay2_wide s want join raw ra rl q (List.mem_of_getElem? hp0)
   dsimp only at h
   omega
  ·exact text_good p0.became (lay2_one s want join raw ra rl p0 (List.mem_of_getElem? hp0)) x tab wideA raw
 rw [eb,es,ew] at key
 obtain⟨h1,h2⟩:=key hw
 refine⟨h1,?_⟩
 rcases h2 with h | h | h
 ·left;unfold wholeB;rw [decide_eq_true h];rfl
 ·left;unfold wholeB;rw [h];simp
 ·exact .inr h
end
section
open Go.RowKit Go.Proofs Go.Shelf
attribute [local go_sem] Oper.semAt_some
def spE:Enc (Int × Int):=⟨fun p=>[.int .i64 p.1,.int .i64 p.2],2,fun _=>rfl⟩
theorem ce_all4 {w:World} {base n c:Nat} {a:Option Addr} {l:List Ce} (hl:l.length=n) (hO:OwnS ceE 32 w base (.slice a n c) l) (i:Nat) (x:Ce) (hx:l[i]? = some x) :
 ∃G,a=some ⟨G,0,none⟩∧w.cell? ⟨G,i*6,none⟩=some (.string x.text)∧w.cell? ⟨G,i*6+1,none⟩=some (.int .i8 x.part)∧w.cell? ⟨G,i*6+2,none⟩=some (.int .i64 x.a)∧w.cell? ⟨G,i*6+3,none⟩=some (.int .i64 x.len)∧w.cell? ⟨G,i*6+4,none⟩=some (.bool x.right)∧w.cell? ⟨G,i*6+5,none⟩=some (.int .u16 0):=by
 subst hl
 obtain⟨G,eG,_,_,hc,_⟩:=hO.at i x hx
 exact⟨G,eG,hc 0 _ rfl,hc 1 _ rfl,hc 2 _ rfl,hc 3 _ rfl,hc 4 _ rfl,hc 5 _ rfl⟩
theorem cellsF_le (L:List Pc) (h:∀p∈L,0≤p.wide∧p.wide≤19):∀o:List Int,(cellsF L o).length≤19*o.length
 | []=>Nat.le_refl _
 | i::t=>by
   have ih:=cellsF_le L h t
   rw [cellsF,List.length_append,List.length_cons]
   have h1:(if 0<(L.getD i.toNat default).wide then cellsP (L.getD i.toNat default) else []).length≤19:=by
    split
    ·rw [cellsP_len,List.getD_eq_getElem?_getD]
     by_cases hi:i.toNat<L.length
     ·rw [List.getElem?_eq_getElem hi]
      have:=h _ (List.getElem_mem hi)
      simp only [Option.getD_some]
      omega
     ·rw [List.getElem?_eq_none (by omega)]
      decide
    ·exact Nat.zero_le _
   omega
theorem cells_le (s:ByteArray) (tab want:Int) (wideA join raw:Bool) (ra rl rw:Int) (hs:s.size≤2097152):(cellsI (layI s tab want wideA join raw ra rl rw)).length≤39845888:=by
 have h1:=cellsF_le (layL s tab want wideA join raw ra rl rw) (layL_bd s tab want wideA join raw ra rl rw) (laySeen s want join raw ra rl)
 have h2:(laySeen s want join raw ra rl).length=(layL s tab want wideA join raw ra rl rw).length:=by unfold laySeen;rw [order_len,List.length_map,layL_len]
 have h3:=layL_max s tab want wideA join raw ra rl rw hs
 have h4:(cellsI (layI s tab want wideA join raw ra rl rw)).length=(cellsF (layL s tab want wideA join raw ra rl rw) (laySeen s want join raw ra rl)).length:=rfl
 omega
theorem spF_cons (a b:Int) (c:Ce) (t:List Ce) (x:Int) (op:Bool) (out:List (Int × Int)):spF a b (c::t) x op out =
 if decide (a≤(c.a:Int))&&decide ((c.a:Int)<b) then
  spF a b t (x+1) true (if op=true then out.set (out.length-1) ((out.getD (out.length-1) (0,0)).1,(out.getD (out.length-1) (0,0)).2+1) else out++[(x,1)])
 else spF a b t (x+1) false out:=by rw [spF]
set_option maxRecDepth 100000 in
set_option maxHeartbeats 4000000 in
theorem Spans_any (s:ByteArray) (hs:s.size≤2097152) (ra rl lev rwd fin tab want f t:Int) (wideA join raw:Bool) (w:World) (hT:T8 w) (hD:DB w) :
 Calls Tryz.prog 25 #[.string s,rowA5 ra rl lev rwd fin,lookV tab want wideA join raw,.int .i64 f,.int .i64 t] w fun e w'=>∃a c,
  e=.returned (.slice a (spansI (cellsI (layI s tab want wideA join raw ra rl rwd)) (loI f t s.size) (hiI f t s.size)).length c) ∧
    OwnS spE 59 w' w.heap.size (.slice a (spansI (cellsI (layI s tab want wideA join raw ra rl rwd)) (loI f t s.size) (hiI f t s.size)).length c) (spansI (cellsI (layI s tab want wideA join raw ra rl rwd)) (loI f t s.size) (hiI f t s.size))∧Below w.heap.size w w':=by
 obtain⟨i5,hi5,hz5,ha5,hby5⟩:=info_parts (Tryz.info_two)
 have HC:=lh (fun (W:World) (h:Below w.heap.size w W)=>Cells_any s hs ra rl lev rwd fin tab want wideA join raw W (hT.below rfl h) (hD.below h) (lay2_lv s want join raw ra rl) (lay_good s tab want wideA join raw ra rl rwd))
 have hn2:=cells_le s tab want wideA join raw ra rl rwd hs
 obtain⟨cs,hcs⟩:∃cs,cellsI (layI s tab want wideA join raw ra rl rwd)=cs:=⟨_,rfl⟩
 rw [hcs] at HC hn2 ⊢
 obtain⟨n,hn⟩:∃n,cs.length=n:=⟨_,rfl⟩
 rw [hn] at HC hn2
 have HSO:=lh (fun (W:World)=>sorted_any f t s.size W)
 obtain⟨lo,hlo⟩:∃lo,loI f t s.size=lo:=⟨_,rfl⟩
 obtain⟨hi,hhi⟩:∃hi,hiI f t s.size=hi:=⟨_,rfl⟩
 rw [hlo,hhi] at HSO ⊢
 obtain⟨Q,hQ⟩:∃Q,spansI cs lo hi=Q:=⟨_,rfl⟩
 have HQ:Hid (spF lo hi cs 0 false []=Q):=lh hQ
 rw [hQ]
 unfold rowA5 at HC
 clear hcs hlo hhi hQ hT hD
 go_enter Tryz.func25,Tryz.ntmps25
 unfold rowA5
 go_upto_region 1 with (fail)
 obtain⟨h0,h1,hb1,hs1⟩:=two_boxes w (.cells #[.int .i64 ra,.int .i64 rl,.int .u8 lev,.int .i64 rwd,.int .i8 fin] 24) (.cells #[.int .i64 tab,.bool wideA,.int .i8 want,.bool join,.bool raw] 26)
 generalize (w.alloc (.cells #[.int .i64 ra,.int .i64 rl,.int .u8 lev,.int .i64 rwd,.int .i8 fin] 24)).alloc (.cells #[.int .i64 tab,.bool wideA,.int .i8 want,.bool join,.bool raw] 26)=W1 at h0 h1 hb1 hs1 ⊢
 obtain⟨B,hB⟩:∃B,w.heap.size=B:=⟨_,rfl⟩
 have HB1:=lh hb1
 rw [hB] at h0 h1 hs1 ⊢
 have HS1:=lh hs1
 have H0:=lh h0
 have H1:=lh h1
 clear h0 h1 hb1 hs1
 go_upto_region 2 with (go_at_call 44;refine (HSO.out _).mono ?_;rintro e w2 ⟨rfl,hb2⟩)
 have hx3:=World.alloc_heap_new w2 (.cells #[.int .i64 lo,.int .i64 hi] 59)
 have hb3:Below W1.heap.size W1 (w2.alloc (.cells #[.int .i64 lo,.int .i64 hi] 59)):=hb2.alloc hb2.size _
 generalize w2.alloc (.cells #[.int .i64 lo,.int .i64 hi] 59)=W3 at hx3 hb3 ⊢
 obtain⟨D,hD⟩:∃D,w2.heap.size=D:=⟨_,rfl⟩
 rw [hD] at hx3 ⊢
 have e0:=(hb3.block B (by have:=HS1.out;omega)).trans H0.out
 have e1:=(hb3.block (B+1) (by have:=HS1.out;omega)).trans H1.out
 have b0:W3.cell? ⟨B,0,none⟩=some (.int .i64 ra):=by simp [World.cell?,e0]
 have b1:W3.cell? ⟨B,1,none⟩=some (.int .i64 rl):=by simp [World.cell?,e0]
 have b2:W3.cell? ⟨B,2,none⟩=some (.int .u8 lev):=by simp [World.cell?,e0]
 have b3:W3.cell? ⟨B,3,none⟩=some (.int .i64 rwd):=by simp [World.cell?,e0]
 have b4:W3.cell? ⟨B,4,none⟩=some (.int .i8 fin):=by simp [World.cell?,e0]
 have l0:W3.cell? ⟨B+1,0,none⟩=some (.int .i64 tab):=by simp [World.cell?,e1]
 have l1:W3.cell? ⟨B+1,1,none⟩=some (.bool wideA):=by simp [World.cell?,e1]
 have l2:W3.cell? ⟨B+1,2,none⟩=some (.int .i8 want):=by simp [World.cell?,e1]
 have l3:W3.cell? ⟨B+1,3,none⟩=some (.bool join):=by simp [World.cell?,e1]
 have l4:W3.cell? ⟨B+1,4,none⟩=some (.bool raw):=by simp [World.cell?,e1]
 have hbw3:Below w.heap.size w W3:=HB1.out.trans (hb3.mono HB1.out.size)
 have HW3:=lh hbw3
 have HC3:=lh (HC.out W3 hbw3)
 have HX3:=lh hx3
 have hDlt:=(Array.getElem?_eq_some_iff.1 hx3).1
 clear hb2 hb3 hx3 e0 e1 hbw3 H0 H1 HC HSO HS1 hD
 go_upto_region 5 with (go_at_call 12;refine HC3.out.mono ?_;rintro e w4 ⟨ca,cc,rfl,hO4,hb4⟩)
 clear b0 b1 b2 b3 b4 l0 l1 l2 l3 l4 HC3
 have HO4:=lh hO4
 have HB4:=lh (HW3.out.trans (hb4.mono HW3.out.size))
 have HX4:=lh ((hb4.block D hDlt).trans HX3.out)
 have hz4:D<w4.heap.size:=Nat.lt_of_lt_of_le hDlt hb4.size
 clear hO4 hb4 HX3
 go_upto_block 0 with (fail)
 go_wp2_with (fail)
 go_loopw [12,13,27] (fun u12 u13 u27 wx=>∃(k:Nat) (out:List (Int × Int)) (op:Bool) (a:Option Addr) (c:Nat),k≤n∧u27=.int .i64 k∧u13=.bool op∧u12=.slice a out.length c∧OwnS spE 59 wx w4.heap.size (.slice a out.length c) out ∧
  (op=true→∃p,out[out.length-1]? = some p∧0≤p.2∧p.2≤(k:Int))∧out.length≤k∧spF lo hi (cs.drop k) k op out=Q∧Below w4.heap.size w4 wx) (fun _ _ u27 _=>n-(intOf u27).toNat)
 case atStart=>exact⟨0,[],false,none,0,Nat.zero_le _,rfl,rfl,rfl,OwnS.nil _ _ _,(fun h=>by cases h),Nat.zero_le _,by rw [List.drop_zero];exact HQ.out,Below.refl _ _⟩
 case round =>
  obtain⟨k,out,op,a,c,hk,rfl,rfl,rfl,hO,hlast,hol,hF,hb⟩:=hrel
  have HBr:=lh hb
  have HO:=lh hO
  have HCr:=lh (HO4.out.keep hb)
  clear hO hb
  by_cases hlt:k<n
  ·obtain⟨x,hx⟩:∃x,cs[k]? = some x:=⟨_,List.getElem?_eq_getElem (by omega)⟩
   obtain⟨G,eG,x0,x1,x2,x3,x4,x5⟩:=ce_all4 hn HCr.out k x hx
   subst eG
   have hds:cs.drop k=x::cs.drop (k+1):=dropR_cons hx
   rw [hds,spF_cons] at hF
   have HF:=lh hF
   have HLA:=lh hlast
   have hkn:(k:Int)<(n:Int):=by omega
   have hwk:IntKind.i64.wrap ((k:Int)+1)=(k:Int)+1:=by rw [IntKind.wrap_i64];omega
   clear hF hlast hx hds
   go_upto_region 7 with (fail)
   have hb7:Below wr.heap.size wr (wr.alloc (.cells #[.string x.text,.int .i8 x.part,.int .i64 x.a,.int .i64 x.len,.bool x.right,.int .u16 0] 32)):=(Below.refl _ _).alloc (Nat.le_refl _) _
   have hy:=World.alloc_heap_new wr (.cells #[.string x.text,.int .i8 x.part,.int .i64 x.a,.int .i64 x.len,.bool x.right,.int .u16 0] 32)
   generalize wr.alloc (.cells #[.string x.text,.int .i8 x.part,.int .i64 x.a,.int .i64 x.len,.bool x.right,.int .u16 0] 32)=W7 at hb7 hy ⊢
   obtain⟨R,hR⟩:∃R,wr.heap.size=R:=⟨_,rfl⟩
   have hB7:Below w4.heap.size w4 W7:=HBr.out.trans (hb7.mono HBr.out.size)
   have HB7:=lh hB7
   have HO7:=lh (HO.out.keep hb7)
   have g1:=(hB7.block D hz4).trans HX4.out
   rw [hR] at hy ⊢
   have y2:W7.cell? ⟨R,2,none⟩=some (.int .i64 x.a):=by simp [World.cell?,hy]
   have z0:W7.cell? ⟨D,0,none⟩=some (.int .i64 lo):=by simp [World.cell?,g1]
   have z1:W7.cell? ⟨D,1,none⟩=some (.int .i64 hi):=by simp [World.cell?,g1]
   clear x0 x1 x2 x3 x4 x5 hb7 hy hB7 g1 HO HCr HBr
   by_cases c1:lo≤(x.a:Int)
   ·have c1d:decide (lo≤(x.a:Int))=true:=decide_eq_true c1
    by_cases c2:(x.a:Int)<hi
    ·have c2d:decide ((x.a:Int)<hi)=true:=decide_eq_true c2
     have hF:=HF.out
     rw [c1d,c2d,Bool.and_self,if_pos rfl] at hF
     have HF2:=lh hF
     clear hF HF
     go_upto_block 2 with (fail)
     clear y2 z0 z1
     cases op with
     | false =>
       rw [if_neg (by decide)] at HF2
       have hO7:W7.ownsRow w4.heap.size 59 2 (.slice a out.length c) out.length (out.flatMap spE.enc):=HO7.out
       have HAL:=lh (World.ownsRow.alloc hO7 (.cells #[.int .i64 k,.int .i64 1] 59))
       have hsz7:=HB7.out.size
       have HLT:=lh hO7
       clear hO7 HLA
       go_wp2_with (at_builtin;refine wpList_append_own_at _ rfl _ _ 57 rfl w4.heap.size 59 i5 _ 2 16 Tryz.underlying57 hi5 hz5 ha5 hby5 rfl (by decide) _ out.length _ rfl HAL.out ⟨W7.heap.size,0,none⟩ 1 1 [.int .i64 k,.int .i64 1] rfl rfl (newS _ _ _) (by simp [Value.oneCell']) (by unfold maxLen;omega) (by omega) (by simp;omega) ?_;intro v' w8 ho8 hg8 _ _)
       replace hg8:(W7.alloc (.cells #[.int .i64 k,.int .i64 1] 59)).grownBy w8 (Value.slice a out.length c).ownBlock:=hg8
       have hol8:=World.ownsRow.lt HLT.out
       have hb8:Below w4.heap.size w4 w8:=(HB7.out.alloc (by omega) _).grown hg8 (by simp;omega) (fun j hj=>(hol8 j hj).1)
       obtain⟨a',c'',hv',_,_⟩:=own_slice ho8
       subst hv'
       have ho9:OwnS spE 59 w8 w4.heap.size (.slice a' (out++[((k:Int),(1:Int))]).length c'') (out++[((k:Int),(1:Int))]):=by
        unfold OwnS
        rw [List.length_append,List.flatMap_append,List.flatMap_singleton]
        exact ho8
       go_roundw
       case rel=>exact⟨k+1,out++[((k:Int),(1:Int))],true,a',c'',by omega,by go_num,rfl,by rw [List.length_append];rfl,ho9,(fun _=>⟨((k:Int),(1:Int)),by rw [List.length_append];simp,by show (0:Int)≤1;omega,by show (1:Int)≤_;omega⟩),by rw [List.length_append,List.length_singleton];omega,by rw [Int.natCast_add];exact HF2.out,hb8⟩
       case measure=>simp [intOf];omega
     | true =>
       rw [if_pos rfl] at HF2
       obtain⟨p,hp,hp0,hpk⟩:=HLA.out rfl
       have hol0:0<out.length:=by
        have:=(List.getElem?_eq_some_iff.1 hp).1
        omega
       have hgd:out.getD (out.length-1) (0,0)=p:=by rw [List.getD_eq_getElem?_getD,hp];rfl
       rw [hgd] at HF2
       obtain⟨m,hm⟩:∃m,out.length=m+1:=⟨out.length-1,by omega⟩
       obtain⟨G',eG,hGb,hGl,hcell,hfz⟩:=HO7.out.at (out.length-1) p hp
       subst eG
       have hO7:OwnS spE 59 W7.drew w4.heap.size (.slice (some ⟨G',0,none⟩) out.length c) out:=HO7.out.keep ((Below.refl _ W7).drew)
       have hset:=OwnS.set hO7 (out.length-1) p (p.1,p.2+1) hp 1 (.int .i64 (p.2+1)) (by decide) rfl
       have hp1:W7.cell? ⟨G',m*2+1,none⟩=some (.int .i64 p.2):=by
        have:=hcell 1 (.int .i64 p.2) rfl
        rw [hm] at this
        exact this
       have hf1:=hfz (m*2+1)
       have hf2:W7.drew.frozen? ⟨G',m*2+1,none⟩=false:=hf1
       have hp2:W7.drew.cell? ⟨G',m*2+1,none⟩=some (.int .i64 p.2):=hp1
       have hs2:OwnS spE 59 (W7.drew.setCell ⟨G',m*2+1,none⟩ (.int .i64 (p.2+1))) w4.heap.size (.slice (some ⟨G',0,none⟩) (m+1) c) (out.set m (p.1,p.2+1)):=by
        have h:=hset
        rw [List.length_set,hm,Nat.add_sub_cancel] at h
        have e:spE.k=2:=rfl
        rw [e] at h
        unfold OwnS at h ⊢
        rw [List.length_set] at h ⊢
        rw [hm] at h ⊢
        exact h
       have HS2:=lh hs2
       have hb8:Below w4.heap.size w4 (W7.drew.setCell ⟨G',m*2+1,none⟩ (.int .i64 (p.2+1))):=HB7.out.drew.setCell (p:=⟨G',m*2+1,none⟩) hGb _
       have HB8:=lh hb8
       have HF3:Hid (spF lo hi (cs.drop (k+1)) ((k+1:Nat):Int) true (out.set m (p.1,p.2+1))=Q):=lh (by
        have h:=HF2.out
        rw [hm,Nat.add_sub_cancel] at h
        rw [Int.natCast_add]
        exact h)
       have hm1:out.length-1=m:=by omega
       rw [hm1] at hp
       have HP:=lh hp
       have HM:=lh hm
       have hwp:IntKind.i64.wrap (p.2+1)=p.2+1:=by rw [IntKind.wrap_i64];omega
       have hwm:IntKind.i64.wrap (((m+1:Nat):Int)-1)=(m:Int):=by rw [IntKind.wrap_i64];omega
       have hwm2:IntKind.i64.wrap ((m:Int)+1-1)=(m:Int):=by rw [IntKind.wrap_i64];omega
       have hwm3:IntKind.i64.wrap (m:Int)=(m:Int):=by rw [IntKind.wrap_i64];omega
       have hmn:(m:Int)<((m+1:Nat):Int):=by omega
       have hmn2:(m:Int)<(m:Int)+1:=by omega
       have hm0:(0:Int)≤(m:Int):=by omega
       rw [hm]
       clear HF2 hp hgd hcell hset hO7 hs2 hb8 hfz hm hm1 hol0 HLA
       go_upto_region 9 with (fail)
       go_still_tail 10,(by kernel_rfl)
       go_wp2_with (fail)
       go_roundw
       case rel=>exact⟨k+1,out.set m (p.1,p.2+1),true,some ⟨G',0,none⟩,c,by omega,by go_num,rfl,by rw [List.length_set,HM.out],by have h:=HS2.out;unfold OwnS at h ⊢;rw [List.length_set,HM.out] at h ⊢;exact h,(fun _=>⟨(p.1,p.2+1),by rw [List.length_set,HM.out,Nat.add_sub_cancel,List.getElem?_set];simp [HM.out],by show (0:Int)≤p.2+1;omega,by show p.2+1≤_;omega⟩),by rw [List.length_set];omega,HF3.out,HB8.out⟩
       case measure=>simp [intOf];omega
    ·have c2d:decide ((x.a:Int)<hi)=false:=decide_eq_false c2
     have hF:=HF.out
     rw [c1d,c2d,Bool.and_false,if_neg (by decide)] at hF
     have HN2:Hid (spF lo hi (cs.drop (k+1)) ((k+1:Nat):Int) false out=Q):=lh (by rw [Int.natCast_add];exact hF)
     clear hF HF
     go_wp2_with (fail)
     go_roundw
     case rel=>exact⟨k+1,out,false,a,c,by omega,by go_num,rfl,rfl,HO7.out,(fun h=>by cases h),by omega,HN2.out,HB7.out⟩
     case measure=>simp [intOf];omega
   ·have c1d:decide (lo≤(x.a:Int))=false:=decide_eq_false c1
    have hF:=HF.out
    rw [c1d,Bool.false_and,if_neg (by decide)] at hF
    have HN2:Hid (spF lo hi (cs.drop (k+1)) ((k+1:Nat):Int) false out=Q):=lh (by rw [Int.natCast_add];exact hF)
    clear hF HF
    go_wp2_with (fail)
    go_roundw
    case rel=>exact⟨k+1,out,false,a,c,by omega,by go_num,rfl,rfl,HO7.out,(fun h=>by cases h),by omega,HN2.out,HB7.out⟩
    case measure=>simp [intOf];omega
  ·obtain rfl:k=n:=by omega
   rw [List.drop_eq_nil_of_le (by omega),spF] at hF
   subst hF
   clear hlast HQ
   go_wp2_with (fail)
   go_ret
   exact⟨a,c,rfl,HO.out.low (by have:=HB4.out.size;omega),HB4.out.trans (HBr.out.mono HB4.out.size)⟩
end
section
open Go.RowKit Go.Proofs Go.Shelf
attribute [local go_sem] Oper.semAt_some
def inI (l:List (Int × Int)) (x:Int):Bool:=l.any fun p=>decide (p.1≤x)&&decide (x<p.1+p.2)
def sumI:List (Int × Int)→Int
 | []=>0
 | p::t=>p.2+sumI t
def smallP (l:List (Int × Int)):Prop:=∀p∈l,0≤p.1∧p.1≤1099511627776∧0≤p.2∧p.2≤1099511627776
theorem sp_at {w:World} {base n c:Nat} {a:Option Addr} {l:List (Int × Int)} (hl:l.length=n) (hO:OwnS spE 59 w base (.slice a n c) l) (i:Nat) (x:Int × Int) (hx:l[i]? = some x) :
 ∃G,a=some ⟨G,0,none⟩∧w.cell? ⟨G,i*2,none⟩=some (.int .i64 x.1)∧w.cell? ⟨G,i*2+1,none⟩=some (.int .i64 x.2):=by
 subst hl
 obtain⟨G,eG,_,_,hc,_⟩:=hO.at i x hx
 exact⟨G,eG,hc 0 _ rfl,hc 1 _ rfl⟩
theorem sumI_snoc (l:List (Int × Int)):∀(k:Nat) (p:Int × Int),l[k]? = some p→sumI (l.take (k+1))=sumI (l.take k)+p.2:=by
 induction l with
 | nil=>intro k p h;simp at h
 | cons q t ih =>
   intro k p h
   cases k with
   | zero =>
     have:q=p:=by simpa using h
     subst this
     simp [sumI]
   | succ k =>
     rw [List.take_succ_cons,List.take_succ_cons,sumI,sumI,ih k p (by simpa using h)]
     omega
set_option maxRecDepth 100000 in
theorem in_any (l:List (Int × Int)) (n:Nat) (hl:l.length=n) (hn:n≤39845888) (hs:smallP l) (base c:Nat) (a:Option Addr) (x:Int) (w:World) (hO:OwnS spE 59 w base (.slice a n c) l) :
 Calls Tryz.prog 26 #[.slice a n c,.int .i64 x] w fun e w'=>e=.returned (.bool (inI l x))∧Below w.heap.size w w':=by
 have HO:=lh hO
 have HS:=lh hs
 clear hO hs
 go_enter Tryz.func26,Tryz.ntmps26
 go_wp2_with (fail)
 go_loopw [5,8] (fun _ u8 wx=>∃k:Nat,k≤n∧u8=.int .i64 k∧inI l x=inI (l.drop k) x∧Below w.heap.size w wx) (fun _ u8 _=>n-(intOf u8).toNat)
 case atStart=>exact⟨0,Nat.zero_le _,rfl,by rw [List.drop_zero],Below.refl _ _⟩
 case round =>
  obtain⟨k,hk,rfl,hI,hb⟩:=hrel
  have HI:=lh hI
  have HB:=lh hb
  by_cases hlt:k<n
  ·obtain⟨p,hp⟩:∃p,l[k]? = some p:=⟨_,List.getElem?_eq_getElem (by omega)⟩
   obtain⟨G,eG,x0,x1⟩:=sp_at hl (HO.out.keep hb) k p hp
   subst eG
   obtain⟨p1,p2,p3,p4⟩:=HS.out p (List.mem_of_getElem? hp)
   have hds:l.drop k=p::l.drop (k+1):=dropR_cons hp
   have hI2:inI l x=((decide (p.1≤x)&&decide (x<p.1+p.2))||inI (l.drop (k+1)) x):=by rw [HI.out,hds];rfl
   have HI2:=lh hI2
   have hkn:(k:Int)<(n:Int):=by omega
   have hwk:IntKind.i64.wrap ((k:Int)+1)=(k:Int)+1:=by rw [IntKind.wrap_i64];omega
   obtain⟨e,he⟩:∃e,p.1+p.2=e:=⟨_,rfl⟩
   have hws:IntKind.i64.wrap (p.1+p.2)=e:=by rw [IntKind.wrap_i64];omega
   rw [he] at HI2
   clear hI hb hI2 hds hp he HI
   by_cases c1:p.1≤x
   ·have c1d:decide (p.1≤x)=true:=decide_eq_true c1
    by_cases c2:x<e
    ·have c2d:decide (x<e)=true:=decide_eq_true c2
     go_upto_region 4 with (fail)
     go_quiet (fail)
     go_wp2_with (fail)
     go_ret
     exact⟨ret_b (by rw [HI2.out,c1d,c2d];rfl),bl_drewN HB.out _⟩
    ·have c2d:decide (x<e)=false:=decide_eq_false c2
     go_upto_region 4 with (fail)
     go_quiet (fail)
     go_wp2_with (fail)
     go_roundw
     case rel=>exact⟨k+1,by omega,by go_num,by rw [HI2.out,c2d,Bool.and_false,Bool.false_or],bl_drewN HB.out _⟩
     case measure=>simp [intOf];omega
   ·have c1d:decide (p.1≤x)=false:=decide_eq_false c1
    go_upto_region 4 with (fail)
    go_quiet (fail)
    go_wp2_with (fail)
    go_roundw
    case rel=>exact⟨k+1,by omega,by go_num,by rw [HI2.out,c1d,Bool.false_and,Bool.false_or],bl_drewN HB.out _⟩
    case measure=>simp [intOf];omega
  ·obtain rfl:k=n:=by omega
   have hfin:inI l x=false:=by rw [hI,List.drop_eq_nil_of_le (by omega)];rfl
   have HFIN:=lh hfin
   clear hI hfin HI
   go_wp2_with (fail)
   go_ret
   exact⟨ret_b HFIN.out.symm,HB.out⟩
set_option maxRecDepth 100000 in
theorem count_any (l:List (Int × Int)) (n:Nat) (hl:l.length=n) (hn:n≤39845888) (hs:smallP l) (ht:∀k,0≤sumI (l.take k)∧sumI (l.take k)≤1099511627776) (base c:Nat) (a:Option Addr) (w:World) (hO:OwnS spE 59 w base (.slice a n c) l) :
 Calls Tryz.prog 27 #[.slice a n c] w fun e w'=>e=.returned (.int .i64 (sumI l))∧w=w':=by
 have HO:=lh hO
 have HS:=lh hs
 have HT:=lh ht
 clear hO hs ht
 go_enter Tryz.func27,Tryz.ntmps27
 go_wp2_with (fail)
 go_loopw [3,4,7] (fun u3 _ u7 wx=>∃k:Nat,k≤n∧u7=.int .i64 k∧u3=.int .i64 (sumI (l.take k))∧w=wx) (fun _ _ u7 _=>n-(intOf u7).toNat)
 case atStart=>exact⟨0,Nat.zero_le _,rfl,by rw [List.take_zero];rfl,rfl⟩
 case round =>
  obtain⟨k,hk,rfl,rfl,rfl⟩:=hrel
  by_cases hlt:k<n
  ·obtain⟨p,hp⟩:∃p,l[k]? = some p:=⟨_,List.getElem?_eq_getElem (by omega)⟩
   obtain⟨G,eG,x0,x1⟩:=sp_at hl HO.out k p hp
   subst eG
   obtain⟨p1,p2,p3,p4⟩:=HS.out p (List.mem_of_getElem? hp)
   have hsn:=sumI_snoc l k p hp
   obtain⟨t1,t2⟩:=HT.out k
   obtain⟨S,hS⟩:∃S,sumI (l.take k)=S:=⟨_,rfl⟩
   rw [hS] at hsn t1 t2 ⊢
   have HSN:=lh hsn
   have hkn:(k:Int)<(n:Int):=by omega
   have hwk:IntKind.i64.wrap ((k:Int)+1)=(k:Int)+1:=by rw [IntKind.wrap_i64];omega
   have hws:IntKind.i64.wrap (S+p.2)=S+p.2:=by rw [IntKind.wrap_i64];omega
   clear hsn hp hS
   go_wp2_with (fail)
   go_roundw
   case rel=>exact⟨k+1,by omega,by go_num,by rw [HSN.out],trivial⟩
   case measure=>simp [intOf];omega
  ·obtain rfl:k=n:=by omega
   rw [List.take_of_length_le (by omega)]
   go_wp2_with (fail)
   go_ret
   exact⟨rfl,rfl⟩
end
section
structure Rc where
 x:Int
 y:Int
 w:Int
 h:Int
deriving DecidableEq
instance:Inhabited Rc:=⟨⟨0,0,0,0⟩⟩
def rcRow (line:ByteArray) (tab want:Int) (wideA join raw:Bool) (a b y:Int) (r:RowV):List Rc :=
 (spansI (cellsI (layI line tab want wideA join raw r.a r.len r.wide)) (loI a b line.size) (hiI a b line.size)).map fun p=>⟨p.1,y,p.2,1⟩
def rcRows (line:ByteArray) (tab want:Int) (wideA join raw:Bool) (a b:Int):List RowV→Int→List Rc
 | [],_=>[]
 | r::t,y=>rcRow line tab want wideA join raw a b y r++rcRows line tab want wideA join raw a b t (y+1)
def coverF (wd tab want:Int) (wideA join raw:Bool) (a b:Int):List (Nat × ByteArray)→Int→List Rc
 | [],_=>[]
 | p::t,y=>rcRows p.2 tab want wideA join raw (a-p.1) (b-p.1) (rowsI p.2 wd tab want wideA raw) y++coverF wd tab want wideA join raw a b t (y+(rowsI p.2 wd tab want wideA raw).length)
def coverI (s:ByteArray) (wd tab want:Int) (wideA join raw:Bool) (f t:Int):List Rc:=coverF wd tab want wideA join raw (loI f t s.size) (hiI f t s.size) (linesI s) 0
def sAb:ByteArray:=⟨#[97,98,32,99,100]⟩
def sLn:ByteArray:=⟨#[97,98,10,99,100]⟩
def sAd:ByteArray:=⟨#[97,98,99,32,100,101,102]⟩
def sTb:ByteArray:=⟨#[97,9,98]⟩
set_option maxRecDepth 100000
theorem ab_word:growI sAb 1 1 1=(0,2):=by kernel_rfl
theorem ln_line:growI sLn 1 1 2=(0,3):=by kernel_rfl
theorem ad_spans:spansI (cellsI (layI sAd 0 0 false false false 0 7 7)) (loI 5 2 7) (hiI 5 2 7)=[(2,3)]:=by kernel_rfl
theorem ln_cover:coverI sLn 9 0 0 false false false 1 4=[⟨1,0,1,1⟩,⟨0,1,1,1⟩]:=by kernel_rfl
theorem ab_both:growI sAb 1 4 1=(0,5):=by kernel_rfl
theorem ab_clus:growI sAb 3 3 0=(3,4):=by kernel_rfl
theorem ab_end:growI sAb 5 5 3=(5,5):=by kernel_rfl
theorem ln_both:growI sLn 0 4 2=(0,5):=by kernel_rfl
theorem ln_out:growI sLn 4 1 9=(1,4):=by kernel_rfl
end
end Go.Proofs.YtlbclfmbejjneaaGreatDoor
