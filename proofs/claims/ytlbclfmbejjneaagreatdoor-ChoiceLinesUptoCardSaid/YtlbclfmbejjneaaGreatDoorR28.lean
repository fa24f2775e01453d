/- Part 28 (merged by a program): lemmas of no further condition than each states. -/
import Derived.Laws.ResultCell
import Derived.Test.YtlbclfmbejjneaaGreatDoorR27
namespace Go.Proofs.YtlbclfmbejjneaaGreatDoor
set_option linter.unusedVariables false
set_option linter.unusedSimpArgs false
section
open Go.RowKit
def shapedI (cs:List Int):List Int:=(List.range cs.length).map fun i=>shapeI (ith cs i) (ith (formsI cs) i)
theorem shapedI_len (cs:List Int):(shapedI cs).length=cs.length:=by unfold shapedI;simp
def shN (cs:List Int) (n i:Nat):List Int:=(List.range n).map fun j=>if j<i then shapeI (ith cs j) (ith (formsI cs) j) else 0
theorem shN_len (cs:List Int) (n i:Nat):(shN cs n i).length=n:=by unfold shN;simp
theorem shN_ith (cs:List Int) (n i j:Nat) (h:j<n):ith (shN cs n i) j=if j<i then shapeI (ith cs j) (ith (formsI cs) j) else 0:=by
 unfold shN ith
 rw [List.getD_eq_getElem?_getD,List.getElem?_map,List.getElem?_range h]
 rfl
theorem shN_next (cs:List Int) (n i:Nat):(shN cs n i).set i (shapeI (ith cs i) (ith (formsI cs) i))=shN cs n (i+1):=by
 apply List.ext_getElem?
 intro j
 unfold shN
 rw [List.getElem?_set,List.getElem?_map,List.getElem?_map,List.length_map,List.length_range]
 by_cases hj:j<n
 ·rw [List.getElem?_range hj]
  by_cases e:i=j
  ·subst e
   simp [hj]
  ·rw [if_neg e]
   simp only [Option.map_some]
   congr 1
   by_cases h1:j<i
   ·rw [if_pos h1,if_pos (by omega)]
   ·rw [if_neg h1,if_neg (by omega)]
 ·rw [List.getElem?_eq_none (by simp;omega)]
  simp
  intro e
  omega
theorem shN_all (cs:List Int):shN cs cs.length cs.length=shapedI cs:=by
 unfold shN shapedI
 apply List.map_congr_left
 intro j hj
 rw [if_pos (List.mem_range.1 hj)]
def ShapedPost (cs:List Int) (n:Nat) (w:World) (e:Ending) (w':World):Prop :=
 e=.returned (.slice (some ⟨w.heap.size,0,none⟩) n n)∧OutAt .i32 21 w' w.heap.size (some ⟨w.heap.size,0,none⟩) n (shapedI cs)∧Below w.heap.size w w'
set_option maxRecDepth 100000 in
set_option maxHeartbeats 2000000 in
theorem Shaped_any (a:Option Addr) (cs:List Int) (n c:Nat) (w:World) (hl:cs.length=n) (hd:Rd .i32 w a cs) (hn:n≤2097152) :
 Calls Tryz.prog 79 #[.slice a n c] w (ShapedPost cs n w):=by
 obtain⟨i3,hi3,hz3,ha3,hb3⟩:=info_parts (Tryz.info_rune)
 have HL:=lh hl
 have hmk:=run_make_row (P:=Tryz.prog) 82 21 i3 (.int .i32 0) Tryz.underlying82 hi3 hz3 ha3 rfl .i64 .i64 n (by rw [hb3];omega) (by omega)
 clear hl
 go_enter Tryz.func79,Tryz.ntmps79
 go_upto_region 2 with (fail)
 clear hmk
 have hO0:OutAt .i32 21 (w.alloc (.cells (madeCells #[.int .i32 0] n) 21)) w.heap.size (some ⟨w.heap.size,0,none⟩) n (shN cs n 0) :=
  out_of_row ((World.rowIs_made w (.int .i32 0) n 21).congr fun i hi=>by rw [shN_ith _ _ _ _ hi,if_neg (Nat.not_lt_zero _)]) (shN_len _ _ _) (Nat.le_refl _) (by unfold maxLen;omega)
 have hb0:=(Below.refl w.heap.size w).alloc (Nat.le_refl _) (.cells (madeCells #[.int .i32 0] n) 21)
 have hs0:w.heap.size<(w.alloc (.cells (madeCells #[.int .i32 0] n) 21)).heap.size:=by simp
 generalize w.alloc (.cells (madeCells #[.int .i32 0] n) 21)=w0 at hO0 hb0 hs0 ⊢
 have HFO:=lh (Forms_any a cs n c w0 HL.out (hd.below hb0) hn)
 have HO0:=lh hO0
 have HB0:=lh hb0
 clear hO0 hb0
 go_upto_block 0 with (go_at_call 106;refine HFO.out.mono ?_;rintro e w1 ⟨rfl,ho1,hb1⟩)
 have HO1:=lh (HO0.out.keep hb1)
 have HB1:=lh (HB0.out.trans (hb1.mono HB0.out.size))
 have HF1:=lh ho1
 clear ho1 hb1 HFO HO0 HB0
 obtain⟨B0,hB0⟩:∃B0,w0.heap.size=B0:=⟨_,rfl⟩
 rw [hB0] at HF1 hs0 ⊢
 clear hB0
 go_wp2_with (fail)
 go_loopw [4,5,12] (fun _ _ u wx=>∃i:Nat,i≤n∧u=.int .i64 i∧OutAt .i32 21 wx w.heap.size (some ⟨w.heap.size,0,none⟩) n (shN cs n i)∧OutAt .i8 22 wx B0 (some ⟨B0,0,none⟩) n (formsI cs)∧Below w.heap.size w wx) (fun _ _ u _=>n-(intOf u).toNat)
 case atStart=>exact⟨0,by omega,rfl,HO1.out,HF1.out,HB1.out⟩
 case round =>
  obtain⟨i,hi,rfl,hO,hF,hbel⟩:=hrel
  clear HO1 HF1 HB1
  by_cases hlt:i<n
  ·obtain⟨G,o,rfl,hG,hcl⟩:=hd.at hbel i (by rw [HL.out];exact hlt)
   obtain⟨_,hGe,_,_,hXo,hFo,_,_⟩:=hO.at i (by rw [shN_len];exact hlt)
   cases hGe
   obtain⟨_,hGe,_,hGl,hXf,_,_,_⟩:=hF.at i (by rw [formsI_len,HL.out];exact hlt)
   cases hGe
   have hnx:=shN_next cs n i
   obtain⟨y,hy⟩:∃y,ith cs i=y:=⟨_,rfl⟩
   obtain⟨f,hf⟩:∃f,ith (formsI cs) i=f:=⟨_,rfl⟩
   rw [hy] at hcl hnx
   rw [hf] at hXf hnx
   obtain⟨x,hx⟩:∃x,shapeI y f=x:=⟨_,rfl⟩
   rw [hx] at hnx
   have HSH:Hid (∀W,Calls Tryz.prog 107 #[.int .i32 y,.int .i8 f] W fun e w'=>e=.returned (.int .i32 x)∧Below W.heap.size W w'):=lh fun W=>hx▸Shape_any y f W
   have HNX:=lh hnx
   have HO:=lh hO
   have HF:=lh hF
   have HBE:=lh hbel
   generalize ith (shN cs n i) i=vo at hXo
   have gi0:(0:Int)≤(i:Int):=by omega
   have gi1:(i:Int)<(n:Int):=by omega
   have hzl:w.heap.size<wr.heap.size:=HO.out.lt.2
   clear hO hF hbel hy hf hx hnx
   go_wp2_with (go_at_call 107;refine (HSH.out _).mono ?_;rintro e w2 ⟨rfl,hw2⟩;have hx2:=(hw2.cell (p:=⟨w.heap.size,i,none⟩) hzl).trans hXo;have hf2:=(hw2.frozen (p:=⟨w.heap.size,i,none⟩) hzl).trans hFo;have HW2:=lh hw2;clear hw2)
   have hO3:=(HO.out.keep HW2.out).set i x
   rw [HNX.out] at hO3
   have hF3:OutAt .i8 22 (w2.setCell ⟨w.heap.size,i,none⟩ (.int .i32 x)) B0 (some ⟨B0,0,none⟩) n (formsI cs):=row_other (HF.out.keep HW2.out) (fun g hg=>by cases hg;show B0≠w.heap.size;omega)
   have hb3:Below w.heap.size w (w2.setCell ⟨w.heap.size,i,none⟩ (.int .i32 x)):=(HBE.out.trans (HW2.out.mono HBE.out.size)).setCell (p:=⟨w.heap.size,i,none⟩) (Nat.le_refl _) _
   have HO3:=lh hO3
   have HF3:=lh hF3
   have HB3:=lh hb3
   clear hO3 hF3 hb3
   go_roundw
   case rel=>exact⟨i+1,by omega,by go_num,HO3.out,HF3.out,HB3.out⟩
   case measure=>simp [intOf];omega
  ·have hie:i=n:=by omega
   subst hie
   have hall:shN cs i i=shapedI cs:=by rw [←HL.out];exact shN_all cs
   rw [hall] at hO
   have HO:=lh hO
   have HB:=lh hbel
   clear hO hF hbel hall
   go_wp2_with (fail)
   go_ret
   exact⟨rfl,HO.out,HB.out⟩
end
section
def madeI (s:ByteArray) (join:Bool) (fr tt:Nat):List Int:=if join=true then shapedI (runesI (s.extract fr tt)) else runesI (s.extract fr tt)
theorem madeI_len (s:ByteArray) (join:Bool) (fr tt:Nat):(madeI s join fr tt).length=(runesI (s.extract fr tt)).length:=by
 unfold madeI
 split
 ·exact shapedI_len _
 ·rfl
def lay2 (s:ByteArray) (want:Int) (join raw:Bool) (ra rl:Int):List Pc :=
 (levelsI s want raw (rowFr s ra) (foundI s (rowFr s ra) (rowTo s ra rl))).map (changeP s (madeI s join (rowFr s ra) (rowTo s ra rl)))
def lay3 (s:ByteArray) (tab want:Int) (wideA join raw:Bool) (ra rl rw:Int):List Pc × Int :=
 layF rw tab wideA raw (lay2 s want join raw ra rl) 0 0 (tailF s (lay2 s want join raw ra rl) (lay2 s want join raw ra rl).length)
def laySeen (s:ByteArray) (want:Int) (join raw:Bool) (ra rl:Int):List Int:=orderI ((lay2 s want join raw ra rl).map (·.level))
def layL (s:ByteArray) (tab want:Int) (wideA join raw:Bool) (ra rl rw:Int):List Pc:=edgeF (laySeen s want join raw ra rl) 0 (lay3 s tab want wideA join raw ra rl rw).1
def layI (s:ByteArray) (tab want:Int) (wideA join raw:Bool) (ra rl rw:Int):LaidR :=
 ⟨layL s tab want wideA join raw ra rl rw,laySeen s want join raw ra rl,rowFr s ra,rowTo s ra rl,baseR s want raw,(lay3 s tab want wideA join raw ra rl rw).2⟩
structure Ce where
 text:ByteArray
 part:Int
 a:Nat
 len:Nat
 right:Bool
deriving DecidableEq
def dotS:ByteArray:=⟨#[226,151,140]⟩
def dotB (s:ByteArray):Bool:=decide (3≤s.size)&&decide (s.extract 0 3=dotS)
def wholeB (p:Pc):Bool:=decide (p.shown=p.became)||dotB p.shown
def oddB (p:Pc):Bool:=decide (p.level % 2=1)
def cellsP (p:Pc):List Ce :=
 (List.range p.wide.toNat).map fun (i:Nat) =>
   if wholeB p=true then Ce.mk (if i=0 then p.shown else ⟨#[]⟩) (i:Int) p.a p.size (oddB p)
   else Ce.mk ⟨#[p.shown.get! i]⟩ 0 p.a p.size (oddB p)
def cellsF (L:List Pc):List Int→List Ce
 | []=>[]
 | i::t=>(if 0<(L.getD i.toNat default).wide then cellsP (L.getD i.toNat default) else [])++cellsF L t
def cellsI (W:LaidR):List Ce:=cellsF W.l W.seen
def asciiB (s:ByteArray):Bool:=s.data.toList.all fun b=>decide (b.toNat<128)
def GoodP (p:Pc):Prop:=0<p.wide→p.wide≤19∧(wholeB p=true∨asciiB p.shown=true∧p.wide=p.shown.size)
def leftF (c:Int):List Pc→Nat
 | []=>0
 | p::t=>if ((p.a+p.size:Nat):Int)≤c then leftF c t+1 else 0
theorem tailF_le (s:ByteArray) (L:List Pc):∀t,tailF s L t≤t
 | 0=>Nat.le_refl _
 | t+1=>by
   rw [tailF]
   split
   ·have:=tailF_le s L t;omega
   ·exact Nat.le_refl _
def tlF (rw:Int) (i:Nat) (x n t:Int):Int:=if t≤(i:Int)∧rw<x+n then -1 else t
theorem layF_cons (rw tab:Int) (wideA raw:Bool) (p:Pc) (L:List Pc) (i:Nat) (x t:Int):layF rw tab wideA raw (p::L) i x t =
 if 0≤tlF rw i x (textI p.became x tab wideA raw).2 t then
  ({p with shown:=(textI p.became x tab wideA raw).1,wide:=(textI p.became x tab wideA raw).2 }::(layF rw tab wideA raw L (i+1) (x+(textI p.became x tab wideA raw).2) (tlF rw i x (textI p.became x tab wideA raw).2 t)).1,
    (layF rw tab wideA raw L (i+1) (x+(textI p.became x tab wideA raw).2) (tlF rw i x (textI p.became x tab wideA raw).2 t)).2)
 else (p::(layF rw tab wideA raw L (i+1) x (-1)).1,(layF rw tab wideA raw L (i+1) x (-1)).2):=rfl
theorem layF_len (rw tab:Int) (wideA raw:Bool):∀(L:List Pc) (i:Nat) (x t:Int),(layF rw tab wideA raw L i x t).1.length=L.length
 | [],_,_,_=>rfl
 | p::L,i,x,t=>by
   rw [layF_cons]
   by_cases h:0≤tlF rw i x (textI p.became x tab wideA raw).2 t
   ·rw [if_pos h];simp only [List.length_cons,layF_len rw tab wideA raw L]
   ·rw [if_neg h];simp only [List.length_cons,layF_len rw tab wideA raw L]
def LaidP (tab:Int) (wideA raw:Bool) (p q:Pc):Prop:=q=p∨∃x:Int,q={ p with shown:=(textI p.became x tab wideA raw).1,wide:=(textI p.became x tab wideA raw).2 }
theorem layF_get (rw tab:Int) (wideA raw:Bool):∀(L:List Pc) (i:Nat) (x t:Int) (j:Nat) (p:Pc),L[j]? = some p→∃q,(layF rw tab wideA raw L i x t).1[j]? = some q∧LaidP tab wideA raw p q
 | [],_,_,_,j,p,h=>by simp at h
 | r::L,i,x,t,0,p,h=>by
   have:r=p:=by simpa using h
   subst this
   rw [layF_cons]
   by_cases h2:0≤tlF rw i x (textI r.became x tab wideA raw).2 t
   ·rw [if_pos h2];exact⟨_,rfl,.inr ⟨x,rfl⟩⟩
   ·rw [if_neg h2];exact⟨_,rfl,.inl rfl⟩
 | r::L,i,x,t,j+1,p,h=>by
   rw [layF_cons]
   by_cases h2:0≤tlF rw i x (textI r.became x tab wideA raw).2 t
   ·rw [if_pos h2];exact layF_get rw tab wideA raw L _ _ _ j p (by simpa using h)
   ·rw [if_neg h2];exact layF_get rw tab wideA raw L _ _ _ j p (by simpa using h)
def wsum:List Pc→Int
 | []=>0
 | p::t=>p.wide+wsum t
theorem layF_sum (rw tab:Int) (wideA raw:Bool):∀(L:List Pc) (i:Nat) (x t:Int),(∀p∈L,p.wide=0)→(layF rw tab wideA raw L i x t).2=x+wsum (layF rw tab wideA raw L i x t).1
 | [],_,x,_,_=>by simp [layF,wsum]
 | p::L,i,x,t,h=>by
   have h1:=h p (List.mem_cons_self ..)
   have h2:∀q∈L,q.wide=0:=fun q hq=>h q (List.mem_cons_of_mem _ hq)
   rw [layF_cons]
   by_cases h3:0≤tlF rw i x (textI p.became x tab wideA raw).2 t
   ·rw [if_pos h3]
    dsimp only
    rw [layF_sum rw tab wideA raw L _ _ _ h2,wsum]
    dsimp only
    omega
   ·rw [if_neg h3]
    dsimp only
    rw [layF_sum rw tab wideA raw L _ _ _ h2,wsum,h1]
    omega
theorem edgeF_len:∀(o:List Int) (x:Int) (L:List Pc),(edgeF o x L).length=L.length
 | [],_,_=>rfl
 | i::t,x,L=>by rw [edgeF,edgeF_len t,List.length_set]
end
section
open Go.RowKit Go.Proofs Go.Shelf
attribute [local go_sem] Oper.semAt_some
theorem results_cells2 {fn:Func} {p q:Tmp} {ty ty':TypeId} (h:fn.results=#[.cell p ty,.cell q ty']) (tmps:Array Value) (P:Program) (w:World) :
 (results fn tmps).run P w=((asAddr (tmps.getD p undef)).run P w).andThen fun a w₁=>((loadVar ty a).run P w₁).andThen fun v w₂=>((asAddr (tmps.getD q undef)).run P w₂).andThen fun a w₃=>((loadVar ty' a).run P w₃).andThen fun v' w₄=>.ok (.tuple #[v,v']) w₄:=by
 simp only [results,h]
 simp [Sem.run_bind,Result.andThen]
theorem at_results {tmps:Array Value} {W:World} {g h:Nat} {x y:Int} (hp:tmps.getD 4 undef=.pointer (some ⟨g,0,none⟩)) (hq:tmps.getD 5 undef=.pointer (some ⟨h,0,none⟩)) (h1:Boxed W g 3 (.int .i64 x)) (h2:Boxed W h 3 (.int .i64 y)) :
 (results Tryz.f13 tmps).run Tryz.prog W=.ok (.tuple #[.int .i64 x,.int .i64 y]) W:=by
 have hr:Tryz.f13.results=#[.cell 4 3,.cell 5 3]:=rfl
 have l1:(loadVar 3 ⟨g,0,none⟩).run Tryz.prog W=.ok (.int .i64 x) W:=by
  simp [loadVar,run_underlying Tryz.underlying3,isAgg,h1.cell]
 have l2:(loadVar 3 ⟨h,0,none⟩).run Tryz.prog W=.ok (.int .i64 y) W:=by
  simp [loadVar,run_underlying Tryz.underlying3,isAgg,h2.cell]
 rw [results_cells2 hr,hp,hq]
 simp only [asAddr,Sem.run_pure,Result.andThen_ok,l1,l2]
def AtJ (w:World) (X n:Nat) (s:ByteArray) (pre:List (PieceOf s)) (W:World):Prop :=
 Boxed W w.heap.size 3 (.int .i64 X)∧Boxed W (w.heap.size+1) 3 (.int .i64 0)∧Boxed W (w.heap.size+1+1) 3 (.int .i64 0)∧Boxed W n 9 (.string s) ∧
  (∀R,clAtF X (pre.map (·.1)++R) s.size=clAtF X R s.size)∧Below w.heap.size w W
def AtY (w:World) (X:Nat) (s:ByteArray) (c:Code) (pre:List (PieceOf s)) (W:World):Prop :=
 c=.ret∧∃r:Nat × Nat,(∀R,clAtF X (pre.map (·.1)++R) s.size=r)∧Boxed W (w.heap.size+1) 3 (.int .i64 r.1)∧Boxed W (w.heap.size+1+1) 3 (.int .i64 r.2)∧Below w.heap.size w W
theorem alloc3 (w:World) (o1 o2 o3:Obj):(((w.alloc o1).alloc o2).alloc o3).heap[w.heap.size]? = some o1∧(((w.alloc o1).alloc o2).alloc o3).heap[w.heap.size+1]? = some o2∧(((w.alloc o1).alloc o2).alloc o3).heap[w.heap.size+1+1]? = some o3∧Below w.heap.size w (((w.alloc o1).alloc o2).alloc o3):=by
 obtain⟨h1,h2,h3⟩:=two_alloc w o1 o2
 have hs:((w.alloc o1).alloc o2).heap.size=w.heap.size+2:=by rw [World.size_alloc,World.size_alloc]
 have h4:=World.alloc_heap_new ((w.alloc o1).alloc o2) o3
 have h5:=(Below.refl ((w.alloc o1).alloc o2).heap.size ((w.alloc o1).alloc o2)).alloc (Nat.le_refl _) o3
 rw [hs] at h4 h5
 exact⟨(h5.block _ (by omega)).trans h1,(h5.block _ (by omega)).trans h2,h4,h3.trans (h5.mono (by omega))⟩
theorem clAtF_snoc {X n:Nat} {L:List (Nat × ByteArray)} (h:∀R,clAtF X (L++R) n=clAtF X R n) (p:Nat × ByteArray):∀R,clAtF X ((L++[p])++R) n=if X<p.1+p.2.size then (p.1,p.1+p.2.size) else clAtF X R n:=fun R=>by
 rw [List.append_assoc,h,List.singleton_append,clAtF]
set_option maxRecDepth 100000 in
set_option maxHeartbeats 1000000 in
theorem cAt_any (s:ByteArray) (hs:s.size≤2097152) (x:Int) (w:World) (hT:T8 w) :
 Calls Tryz.prog 13 #[.string s,.int .i64 x] w fun e w'=>e=.returned (.tuple #[.int .i64 (clAt s x).1,.int .i64 (clAt s x).2])∧Below w.heap.size w w':=by
 refine (callsIn_wide (n:=4)).1 ?_
 refine callsIn_of_wp_marks Tryz.func13 rfl trivial ?_ rfl
 simp only [Tryz.ntmps13,List.size_toArray,List.length_cons,List.length_nil,Nat.reduceAdd,Nat.reduceSub,Array.replicate_succ,Array.replicate_zero,List.push_toArray,List.append_toArray,List.nil_append,List.cons_append]
 obtain⟨m0,hm0⟩:∃m0,x.toNat=m0:=⟨_,rfl⟩
 obtain⟨X,hX⟩:∃X,min m0 s.size=X:=⟨_,rfl⟩
 have e1:max x 0=(m0:Int):=by omega
 have e2:min (m0:Int) (s.size:Int)=(X:Int):=by omega
 have hcl:clAt s x=clAtF X (piecesI s) s.size:=by unfold clAt;rw [hm0,hX]
 rw [hcl]
 have hXs:X≤s.size:=by omega
 clear hm0 hX hcl
 gi_upto_region 1 with (fail)
 obtain⟨j1,j2,j3,hb0⟩:=alloc3 w (.cells #[.int .i64 x] 3 (0,0)) (.cells #[.int .i64 0] 3 (0,0)) (.cells #[.int .i64 0] 3 (0,0))
 have hs0:(((w.alloc (.cells #[.int .i64 x] 3)).alloc (.cells #[.int .i64 0] 3)).alloc (.cells #[.int .i64 0] 3)).heap.size=w.heap.size+3:=by rw [World.size_alloc,World.size_alloc,World.size_alloc]
 generalize ((w.alloc (.cells #[.int .i64 x] 3)).alloc (.cells #[.int .i64 0] 3)).alloc (.cells #[.int .i64 0] 3)=W0 at j1 j2 j3 hb0 hs0 ⊢
 have k1:Boxed W0 w.heap.size 3 (.int .i64 x):=j1
 have k2:Boxed W0 (w.heap.size+1) 3 (.int .i64 0):=j2
 have k3:Boxed W0 (w.heap.size+1+1) 3 (.int .i64 0):=j3
 clear j1 j2 j3
 have c1:=k1.cell
 have f1:=k1.frozen
 gi_upto_region 2 with (fail)
 have hb1:Below w.heap.size w (W0.setCell ⟨w.heap.size,0,none⟩ (.int .i64 X)):=hb0.setCell (p:=⟨w.heap.size,0,none⟩) (Nat.le_refl _) _
 have q1:Boxed (W0.setCell ⟨w.heap.size,0,none⟩ (.int .i64 X)) w.heap.size 3 (.int .i64 X):=set_at k1 _
 have q2:Boxed (W0.setCell ⟨w.heap.size,0,none⟩ (.int .i64 X)) (w.heap.size+1) 3 (.int .i64 0):=box_other k2 (by omega)
 have q3:Boxed (W0.setCell ⟨w.heap.size,0,none⟩ (.int .i64 X)) (w.heap.size+1+1) 3 (.int .i64 0):=box_other k3 (by omega)
 have hs1:(W0.setCell ⟨w.heap.size,0,none⟩ (.int .i64 X)).heap.size=w.heap.size+3:=by
  have:=(KeepsWalks.setCell W0 ⟨w.heap.size,0,none⟩ (.int .i64 X)).size
  show (W0.heap.modify _ _).size=_
  rw [Array.size_modify,hs0]
 generalize W0.setCell ⟨w.heap.size,0,none⟩ (.int .i64 X)=W1 at hb1 q1 q2 q3 hs1 ⊢
 clear k1 k2 k3 c1 f1 hb0 hs0 W0
 gi_wp2_with (fail)
 refine⟨trivial,?_⟩
 refine (callsIn_wide.2 (pieces_any s _)).mono ?_
 rintro e' W3 ⟨rfl,hW3⟩
 obtain⟨n,hn⟩:∃n,w.heap.size+3=n:=⟨_,rfl⟩
 have hb3:Below W1.heap.size W1 W3:=hW3▸(Below.refl _ _).alloc (Nat.le_refl _) _
 have hbs:Boxed W3 n 9 (.string s):=by rw [←hn,←hs1,hW3];exact World.alloc_heap_new W1 _
 have hs3:W3.heap.size=n+1:=by rw [hW3,World.size_alloc,hs1,hn]
 have r1:Boxed W3 w.heap.size 3 (.int .i64 X):=(hb3.block _ (by omega)).trans q1
 have r2:Boxed W3 (w.heap.size+1) 3 (.int .i64 0):=(hb3.block _ (by omega)).trans q2
 have r3:Boxed W3 (w.heap.size+1+1) 3 (.int .i64 0):=(hb3.block _ (by omega)).trans q3
 have hb03:Below w.heap.size w W3:=hb1.trans (hb3.mono (by omega))
 clear hW3 hb3 q1 q2 q3 hb1
 simp only [hs1,hn]
 have hT3:T8 W3:=hT.below rfl hb03
 have h3:Tryz.lays197_ren.g 3<w.heap.size:=cell_lt (hT.1 0 (by omega))
 have h4:Tryz.lays197_ren.g 4<w.heap.size:=cell_lt (hT.2 0 (by omega)).1
 unfold itV
 gi_wp2_with (fail)
 refine wpIn_rangeFunc_ownF (F:=Fence.wide) rfl (by omega) (gf:=54) (lb:=#[.pointer (some ⟨n,0,none⟩)]) rfl trivial (enters_of Tryz.func54 (by kernel_rfl) rfl)
  (pieces_stops 3 (by omega) n w.heap.size s (by omega) h3 h4 W3 (by omega) hbs.cell hT3) (fun h k=>KpB.trans h k) (kpB_put (w:=W3) (by omega)) (Below.refl _ _) (fun _=>rfl)
  (AtJ w X n s) (AtY w X s) ?hI ?hIx ?h0
  (fun x'=>{ tmps:=#[.string s,.int .i64 x,undef,.pointer (some ⟨w.heap.size,0,none⟩),.pointer (some ⟨w.heap.size+1,0,none⟩),.pointer (some ⟨w.heap.size+1+1,0,none⟩),.int .i64 x'.1.1,.string x'.1.2,.int .i64 x,.int .i64 m0,.string s,.int .i64 s.size,.int .i64 X,.string s,(.func (.func 54) #[] #[.pointer (some ⟨n,0,none⟩)]),.int .i64 x'.1.1,.string x'.1.2,undef,undef,undef,undef,undef,undef,undef,undef,undef,undef,undef,undef,undef,undef,undef],defers:=[] }) ?assign ?body ?done ?stop
 case hI =>
  rintro pre A B row ⟨a1,a2,a3,a4,a5,a6⟩ hg hrow
  have hr:=fun k e=>(hrow k e).2
  exact⟨box_kept a1 hg hr,box_kept a2 hg hr,box_kept a3 hg hr,box_kept a4 hg hr,a5,a6.grown hg (by have:=a6.size;omega) (fun k e=>by have:=(hrow k e).1;omega)⟩
 case hIx =>
  rintro c pre A B row ⟨h0,e,a1,a2,a3,a9⟩ hg hrow
  have hr:=fun k e=>(hrow k e).2
  exact⟨h0,e,a1,box_kept a2 hg hr,box_kept a3 hg hr,a9.grown hg (by have:=a9.size;omega) (fun k e=>by have:=(hrow k e).1;omega)⟩
 case h0=>exact⟨r1,r2,r3,hbs,fun R=>by simp,hb03⟩
 case assign =>
  intro l x' W K hK
  gi_wp2_with (fail)
  exact hK
 case body =>
  rintro l pre x' W ⟨a1,a2,a3,a4,a5,a6⟩ hlt
  obtain⟨at',hat⟩:∃a,x'.1.1=a:=⟨_,rfl⟩
  obtain⟨c,hcc⟩:∃c,x'.1.2=c:=⟨_,rfl⟩
  have hx:=x'.2
  rw [hat,hcc] at hx
  simp only [hat,hcc]
  have hsn:=clAtF_snoc a5 x'.1
  rw [hat,hcc] at hsn
  have hsn2:∀R,clAtF X ((pre++[x']).map (·.1)++R) s.size=if X<at'+c.size then (at',at'+c.size) else clAtF X R s.size:=fun R=>by
   rw [List.map_append,List.map_singleton]
   exact hsn R
  have c1:=a1.cell
  have c2:=a2.cell
  have c3:=a3.cell
  have f2:=a2.frozen
  have f3:=a3.frozen
  have A1:=lh a1
  have A2:=lh a2
  have A3:=lh a3
  have A4:=lh a4
  have A6:=lh a6
  have HSN:=lh hsn2
  have g1:(at':Int)≤2097152:=by omega
  have g2:(c.size:Int)≤2097152:=by omega
  clear a1 a2 a3 a4 a5 a6 hsn hsn2 hat hcc hx hlt r1 r2 r3 hbs hb03 hT3 e1 e2
  by_cases hc:X<at'+c.size
  ·have hd:(X:Int)<(at':Int)+(c.size:Int):=by omega
   have HE:=lh (fun R=>(HSN.out R).trans (if_pos hc))
   clear hc HSN
   gi_wp2_with (fail)
   refine⟨(KeepsOthers.setCell _ _ _).trans (KeepsOthers.setCell _ _ _),?_⟩
   exact⟨rfl,(at',at'+c.size),HE.out,box_other (set_at A2.out _) (by omega),set_at (box_other A3.out (by omega)) _,
    (A6.out.setCell (p:=⟨w.heap.size+1,0,none⟩) (Nat.le_succ _) _).setCell (p:=⟨w.heap.size+1+1,0,none⟩) (Nat.le_trans (Nat.le_succ _) (Nat.le_succ _)) _⟩
  ·have hd:¬ ((X:Int)<(at':Int)+(c.size:Int)):=by omega
   have HE:=lh (fun R=>(HSN.out R).trans (if_neg hc))
   clear hc HSN
   gi_wp2_with (fail)
   refine⟨KeepsOthers.refl _,⟨Below.refl _ _,fun v hv=>hv⟩,A1.out,A2.out,A3.out,A4.out,HE.out,A6.out⟩
 case done =>
  rintro D xs W hD hxs ⟨a1,a2,a3,a4,a5,a6⟩ hK
  have hfin:clAtF X (piecesI s) s.size=(s.size,s.size):=by
   have:=a5 []
   rw [List.append_nil,hxs] at this
   rw [this,clAtF]
  have c2:=a2.cell
  have c3:=a3.cell
  have f2:=a2.frozen
  have f3:=a3.frozen
  have A2:=lh a2
  have A3:=lh a3
  have A6:=lh a6
  have HF:=lh hfin
  clear a1 a2 a3 a4 a5 a6 hfin hxs r1 r2 r3 hbs hb03 hT3 e1 e2
  gi_wp2_with (fail)
  have s2:Boxed ((W.setCell ⟨w.heap.size+1,0,none⟩ (.int .i64 s.size)).setCell ⟨w.heap.size+1+1,0,none⟩ (.int .i64 s.size)) (w.heap.size+1) 3 (.int .i64 s.size):=box_other (set_at A2.out _) (by omega)
  have s3:Boxed ((W.setCell ⟨w.heap.size+1,0,none⟩ (.int .i64 s.size)).setCell ⟨w.heap.size+1+1,0,none⟩ (.int .i64 s.size)) (w.heap.size+1+1) 3 (.int .i64 s.size):=set_at (box_other A3.out (by omega)) _
  have s9:Below w.heap.size w ((W.setCell ⟨w.heap.size+1,0,none⟩ (.int .i64 s.size)).setCell ⟨w.heap.size+1+1,0,none⟩ (.int .i64 s.size)):=(A6.out.setCell (p:=⟨w.heap.size+1,0,none⟩) (Nat.le_succ _) _).setCell (p:=⟨w.heap.size+1+1,0,none⟩) (Nat.le_trans (Nat.le_succ _) (Nat.le_succ _)) _
  have sK:((W.setCell ⟨w.heap.size+1,0,none⟩ (.int .i64 s.size)).setCell ⟨w.heap.size+1+1,0,none⟩ (.int .i64 s.size)).heap[D]? = some (.deferred (some [])):=box_other (box_other hK (by omega)) (by omega)
  generalize (W.setCell ⟨w.heap.size+1,0,none⟩ (.int .i64 s.size)).setCell ⟨w.heap.size+1+1,0,none⟩ (.int .i64 s.size)=W5 at s2 s3 s9 sK ⊢
  refine⟨by simp,.inl ⟨_,_,rfl,run_takeDeferred sK,?_⟩⟩
  refine⟨_,at_results rfl rfl (box_kept s2 (grownBy_putObj' W5 D (.deferred none)) (fun r e=>by cases e;exact⟨_,sK,rfl⟩)) (box_kept s3 (grownBy_putObj' W5 D (.deferred none)) (fun r e=>by cases e;exact⟨_,sK,rfl⟩)),?_,?_⟩
  ·rw [HF.out]
  ·exact s9.trans (belowK_b (w:=w) (Nat.le_refl _) W5 D _ _ (by omega) sK rfl rfl)
 case stop =>
  rintro D c pre W hD hSp ⟨rfl,r,a1,a2,a3,a9⟩ hK
  have hfin:clAtF X (piecesI s) s.size=r:=by
   obtain⟨R,hR⟩:=hSp
   have:=a1 R
   rw [hR] at this
   exact this
  dsimp only
  clear r1 r2 r3 hbs hb03 hT3 e1 e2
  gi_wp2_with (fail)
  refine⟨by simp,.inl ⟨_,_,rfl,run_takeDeferred hK,?_⟩⟩
  refine⟨_,at_results rfl rfl (box_kept a2 (grownBy_putObj' W D (.deferred none)) (fun r e=>by cases e;exact⟨_,hK,rfl⟩)) (box_kept a3 (grownBy_putObj' W D (.deferred none)) (fun r e=>by cases e;exact⟨_,hK,rfl⟩)),?_,?_⟩
  ·rw [hfin]
  ·exact a9.trans (belowK_b (w:=w) (Nat.le_refl _) W D _ _ (by omega) hK rfl rfl)
end
section
open Go.RowKit Go.Proofs Go.Shelf
structure Enc (α:Type) where
 enc:α→List Value
 k:Nat
 len:∀x,(enc x).length=k
variable {α:Type} (E:Enc α)
theorem flatS_len (l:List α):(l.flatMap E.enc).length=l.length*E.k:=by
 induction l with
 | nil=>simp
 | cons x l ih=>rw [List.flatMap_cons,List.length_append,ih,List.length_cons,E.len,Nat.add_mul];omega
theorem flatS_get (l:List α) (i:Nat) (x:α) (h:l[i]? = some x) (j:Nat) (v:Value) (hv:(E.enc x)[j]? = some v):(l.flatMap E.enc)[i*E.k+j]? = some v:=by
 have hj:j<E.k:=by
  have:=(List.getElem?_eq_some_iff.1 hv).1
  rw [E.len] at this
  exact this
 induction l generalizing i with
 | nil=>simp at h
 | cons y l ih =>
   rw [List.flatMap_cons]
   cases i with
   | zero =>
     have:y=x:=by simpa using h
     subst this
     rw [Nat.zero_mul,Nat.zero_add,List.getElem?_append_left (by rw [E.len];exact hj)]
     exact hv
   | succ i =>
     have e1:(i+1)*E.k+j-(E.enc y).length=i*E.k+j:=by rw [E.len,Nat.add_mul];omega
     rw [List.getElem?_append_right (by rw [E.len,Nat.add_mul];omega),e1]
     exact ih i (by simpa using h)
theorem flatS_set (l:List α) (i:Nat) (x y:α) (h:l[i]? = some x) (j:Nat) (v:Value) (hj:j<E.k) (hy:E.enc y=(E.enc x).set j v):(l.set i y).flatMap E.enc=(l.flatMap E.enc).set (i*E.k+j) v:=by
 induction l generalizing i with
 | nil=>simp at h
 | cons z l ih =>
   cases i with
   | zero =>
     have:z=x:=by simpa using h
     subst this
     rw [List.set_cons_zero,List.flatMap_cons,List.flatMap_cons,Nat.zero_mul,Nat.zero_add,List.set_append_left _ _ (by rw [E.len];exact hj),hy]
   | succ i =>
     have e1:(i+1)*E.k+j-(E.enc z).length=i*E.k+j:=by rw [E.len,Nat.add_mul];omega
     rw [List.set_cons_succ,List.flatMap_cons,List.flatMap_cons,List.set_append_right _ _ (by rw [E.len,Nat.add_mul];omega),e1,ih i (by simpa using h)]
theorem flatS_snoc (l:List α) (x:α):(l++[x]).flatMap E.enc=l.flatMap E.enc++E.enc x:=by
 rw [List.flatMap_append,List.flatMap_singleton]
def OwnS (e:Nat) (W:World) (base:Nat) (v:Value) (l:List α):Prop:=W.ownsRow base e E.k v l.length (l.flatMap E.enc)
variable {E}
theorem OwnS.nil (e:Nat) (W:World) (base:Nat):OwnS E e W base (.slice none 0 0) []:=⟨by simp,.inl ⟨rfl,rfl⟩⟩
theorem OwnS.keep {e:Nat} {W W':World} {base:Nat} {v:Value} {l:List α} (h:OwnS E e W base v l) (hb:Below W.heap.size W W'):OwnS E e W' base v l:=ownsRow_keep h hb
theorem OwnS.low {e:Nat} {W:World} {base base':Nat} {v:Value} {l:List α} (h:OwnS E e W base v l) (hb:base'≤base):OwnS E e W base' v l:=ownsRow_base h hb
theorem OwnS.slice {e:Nat} {W:World} {base:Nat} {v:Value} {l:List α} (h:OwnS E e W base v l):∃a cap,v=.slice a l.length cap∧l.length≤cap∧cap≤maxLen:=own_slice h
theorem OwnS.other {e:Nat} {W:World} {base B i:Nat} {v u:Value} {l:List α} (h:OwnS E e W base v l) (hne:∀g,v.ownBlock=some g→g≠B):OwnS E e (W.setCell ⟨B,i,none⟩ u) base v l:=row_other h hne
theorem OwnS.at {e:Nat} {W:World} {base cap:Nat} {a:Option Addr} {l:List α} (h:OwnS E e W base (.slice a l.length cap) l) (i:Nat) (x:α) (hx:l[i]? = some x) :
 ∃G,a=some ⟨G,0,none⟩∧base≤G∧G<W.heap.size∧(∀j u,(E.enc x)[j]? = some u→W.cell? ⟨G,i*E.k+j,none⟩=some u)∧∀j,W.frozen? ⟨G,j,none⟩=false:=by
 have hil:=(List.getElem?_eq_some_iff.1 hx).1
 obtain⟨G,h1,h2,h3,h4⟩:=own_cells h (by omega)
 refine⟨G,h1,h2,h3,fun j u hu=>?_,fun j=>?_⟩
 ·have hj:j<E.k:=by
   have:=(List.getElem?_eq_some_iff.1 hu).1
   rw [E.len] at this
   exact this
  have hle:(i+1)*E.k≤l.length*E.k:=Nat.mul_le_mul_right _ (by omega)
  rw [Nat.add_mul] at hle
  rw [h4 _ (by omega)]
  exact flatS_get E l i x hx j u hu
 ·rcases h.2 with ⟨h1',h0⟩ | ⟨g,cap',cur,h1',hb,hg,_⟩
  ·omega
  ·rw [h1] at h1'
   simp only [Value.slice.injEq,Option.some.injEq,Addr.mk.injEq] at h1'
   obtain⟨⟨rfl,_⟩,_⟩:=h1'
   simp [World.frozen?,hg]
theorem OwnS.set {e:Nat} {W:World} {base cap G:Nat} {l:List α} (h:OwnS E e W base (.slice (some ⟨G,0,none⟩) l.length cap) l) (i:Nat) (x y:α) (hx:l[i]? = some x) (j:Nat) (v:Value) (hj:j<E.k) (hy:E.enc y=(E.enc x).set j v) :
 OwnS E e (W.setCell ⟨G,i*E.k+j,none⟩ v) base (.slice (some ⟨G,0,none⟩) (l.set i y).length cap) (l.set i y):=by
 unfold OwnS
 rw [List.length_set,flatS_set E l i x y hx j v hj hy]
 exact (World.ownsRow.stored h (i*E.k+j) v).1
end
section
open Go.RowKit Go.Proofs
variable {P:Program} {ops:Array Oper} {Q:Exit→Act→World→Prop} {md:Region.Mode}
def waitsB (md:Region.Mode) (ops:Array Oper) (o:Oper) (i:Nat):Bool :=
 o.after.any fun e=>Region.binds md e&&(e.on==i||match ops[e.on]? with
  | some p=>p.after.any fun e2=>Region.binds md e2&&e2.on==i
  | none=>false)
def lastB2 (md:Region.Mode) (ops:Array Oper) (n:Nat):Bool :=
 ((List.range n).all fun i=>match ops[n]? with
   | some o=>waitsB md ops o i
   | none=>false) &&
 ((List.range (n+1)).all fun i=>match ops[i]? with
   | some o=>o.after.all fun e=>!Region.binds md e||decide (e.on<i)
   | none=>false) &&
 match ops[n]? with
  | some o=>o.guard.isNone&&o.dst.isNone
  | none=>false
def closedL (md:Region.Mode) (ops:Array Oper) (L:Array Bool):Prop:=∀i,L.getD i false=true→∀o,ops[i]? = some o→∀e∈o.after,Region.binds md e=true→L.getD e.on false=true
theorem getD_lt {L:Array Bool} {i:Nat} (h:L.getD i false=true):i<L.size:=by
 by_cases e:i<L.size
 ·exact e
 ·simp [e] at h
theorem closed_set {L:Array Bool} (h:closedL md ops L) {i:Nat} (hi:i∈Region.ready md ops L):closedL md ops (L.setIfInBounds i true):=fun j hj o ho e he hb=>by
 have up:∀k,L.getD k false=true→(L.setIfInBounds i true).getD k false=true:=fun k hk=>by
  have hl:=getD_lt hk
  by_cases e:i=k
  ·subst e;simp [hl]
  ·rw [getD_set_ne false e];exact hk
 by_cases e':i=j
 ·subst e'
  obtain⟨_,o',ho',hall⟩:=mem_ready.1 hi
  rw [ho] at ho'
  cases ho'
  exact up _ (hall e he hb)
 ·rw [getD_set_ne false e'] at hj
  exact up _ (h j hj o ho e he hb)
theorem all_listed2 {n:Nat} {L:Array Bool} (hB:((List.range (n+1)).all fun i=>match ops[i]? with
 | some o=>o.after.all fun e=>!Region.binds md e||decide (e.on<i)
 | none=>false)=true) (hs:ops.size=n+1) (hL:L.size=n+1) (hr:Region.ready md ops L=[]):∀i,i≤n→L.getD i true=true:=by
 intro i
 induction i using Nat.strongRecOn with
 | _ i ih =>
   intro hi
   by_cases hl:L.getD i true=true
   ·exact hl
   ·exfalso
    have hl':L.getD i true=false:=by simpa using hl
    simp only [List.all_eq_true,List.mem_range] at hB
    have h2:=hB i (by omega)
    have hio:i<ops.size:=by omega
    rw [Array.getElem?_eq_getElem hio] at h2
    have hm:i∈Region.ready md ops L:=mem_ready.2 ⟨hl',ops[i],Array.getElem?_eq_getElem hio,fun e he hb=>by
     have h3:=Array.all_eq_true'.1 h2 e he
     rw [hb] at h3
     have h4:e.on<i:=by simpa using h3
     have h5:=ih e.on h4 (by omega)
     have:e.on<L.size:=by omega
     simp [this] at h5 ⊢
     exact h5⟩
    rw [hr] at hm
    cases hm
theorem nop_any2 (h:List Oper) (o:Oper) (hB:lastB2 md (h++[o]).toArray h.length=true):∀(fuel:Nat) (L:Array Bool) (a:Act) (w:World),L.size=h.length+1→L.getD h.length true=false→closedL md (h++[o]).toArray L →
 wpAny P md (h++[nop o]).toArray (Exit.then (fun a w=>wpList P (h++[o]).toArray Q [o] a w) Q) fuel L a w→wpAny P md (h++[o]).toArray Q fuel L a w
 | 0,L,a,w,hL,hn,hc,hh=>by
   have hr:=hh.1
   rw [nop_ready] at hr
   simp only [lastB2,Bool.and_eq_true] at hB
   have:=all_listed2 hB.1.2 (by simp) hL hr h.length (Nat.le_refl _)
   rw [hn] at this
   cases this
 | fuel+1,L,a,w,hL,hn,hc,hh=>by
   have hB0:=hB
   simp only [lastB2,Bool.and_eq_true] at hB0
   have hno:Region.ready md (h++[o]).toArray L≠[]:=fun hr=>by
    have:=all_listed2 hB0.1.2 (by simp) hL hr h.length (Nat.le_refl _)
    rw [hn] at this
    cases this
   have hB':=hB
   simp only [lastB2,Bool.and_eq_true,List.all_eq_true,List.mem_range] at hB'
   have hlast:=hB'.2
   simp only [List.getElem?_toArray,List.getElem?_concat_length,Bool.and_eq_true,Option.isNone_iff_eq_none] at hlast
   obtain⟨hg,hd⟩:=hlast
   refine⟨fun hr=>absurd hr hno,fun i hi=>?_⟩
   have h2:=hh.2 i (by rw [nop_ready];exact hi)
   by_cases e:i=h.length
   ·subst e
    have hdep:∀j,j<h.length→L.getD j false=true:=fun j hj=>by
     have h3:=hB'.1.1 j hj
     simp only [List.getElem?_toArray,List.getElem?_concat_length] at h3
     obtain⟨e,he,hb⟩:=Array.any_eq_true'.1 h3
     simp only [Bool.and_eq_true,Bool.or_eq_true,beq_iff_eq] at hb
     obtain⟨_,o',ho',hall⟩:=mem_ready.1 hi
     simp only [List.getElem?_toArray,List.getElem?_concat_length,Option.some.injEq] at ho'
     subst ho'
     have h5:=hall e he hb.1
     rcases hb.2 with hb2 | hb2
     ·rwa [hb2] at h5
     ·cases hp:(h++[o]).toArray[e.on]? with
      | none=>rw [hp] at hb2;cases hb2
      | some p =>
        have hp':=hp
        rw [hp] at hb2
        obtain⟨e2,he2,hb3⟩:=Array.any_eq_true'.1 hb2
        simp only [Bool.and_eq_true,beq_iff_eq] at hb3
        have:=hc e.on h5 p hp' e2 he2 hb3.1
        rwa [hb3.2] at this
    have hrs:Region.ready md (h++[o]).toArray (L.setIfInBounds h.length true)=[]:=by
     refine List.eq_nil_iff_forall_not_mem.2 fun j hj=>?_
     obtain⟨hj1,o',ho',_⟩:=mem_ready.1 hj
     have hjs:j<h.length+1:=by
      have:=(Array.getElem?_eq_some_iff.1 ho').1
      simpa using this
     by_cases ej:h.length=j
     ·subst ej
      simp [hL] at hj1
     ·rw [getD_set_ne true ej] at hj1
      have:=hdep j (by omega)
      have hjl:j<L.size:=by omega
      simp [hjl] at hj1 this
      rw [hj1] at this
      cases this
    unfold wpOp at h2
    rw [nop_get,if_pos rfl] at h2
    have hwn:∀y,Region.wanted (nop o) y=true:=fun y=>by
     unfold Region.wanted nop
     rw [hg]
    dsimp only at h2
    rw [if_pos (hwn _)] at h2
    have h3:wpAny P md (h++[nop o]).toArray (Exit.then (fun a w=>wpList P (h++[o]).toArray Q [o] a w) Q) fuel (L.setIfInBounds h.length true) a w:=by
     rcases h2 with h2 | h2
     ·exact h2
     ·exact absurd h2.1 (nop_asks o a w)
    have h4:wpList P (h++[o]).toArray Q [o] a w:=by
     have hr2:=hrs
     rw [←nop_ready] at hr2
     cases fuel with
     | zero=>exact h3.2
     | succ fuel=>exact h3.1 hr2
    have hdone:∀a w,Q .normal a w→wpAny P md (h++[o]).toArray Q fuel (L.setIfInBounds h.length true) a w:=fun a w hq=>by
     cases fuel with
     | zero=>exact⟨hrs,hq⟩
     | succ fuel=>exact⟨fun _=>hq,fun i hi=>by rw [hrs] at hi;cases hi⟩
    unfold wpOp
    simp only [List.getElem?_toArray,List.getElem?_concat_length]
    unfold wpList at h4
    split at h4
    ·rename_i hw
     rw [if_pos hw]
     exact h4.imp (Oper.wp_mono (fun a w hq=>hdone a w hq)) id
    ·rename_i hw
     rw [if_neg hw]
     exact hdone _ _ h4
   ·have hget:(h++[nop o]).toArray[i]? = (h++[o]).toArray[i]?:=by rw [nop_get,if_neg e]
    unfold wpOp at h2 ⊢
    rw [hget] at h2
    have hnext:∀a w,wpAny P md (h++[nop o]).toArray (Exit.then (fun a w=>wpList P (h++[o]).toArray Q [o] a w) Q) fuel (L.setIfInBounds i true) a w→wpAny P md (h++[o]).toArray Q fuel (L.setIfInBounds i true) a w:=fun a w hk =>
     nop_any2 h o hB fuel _ a w (by simp [hL]) (by rw [getD_set_ne true e];exact hn) (closed_set hc hi) hk
    split
    ·rename_i ho;rw [ho] at h2;exact hnext _ _ h2
    ·rename_i p ho
     rw [ho] at h2
     dsimp only at h2
     rw [nop_yielded h o hd] at h2
     split
     ·rename_i hw
      rw [if_pos hw] at h2
      rcases h2 with h2 | h2
      ·exact .inl (Oper.wp_mono hnext (oper_wp_then h2))
      ·exact .inr h2
     ·rename_i hw
      rw [if_neg hw] at h2
      exact hnext _ _ h2
theorem closed_start (n:Nat):closedL md ops (Array.replicate n false):=fun i hi=>by
 have hl:=getD_lt hi
 simp at hl
 simp [hl] at hi
theorem wpIn_region_segl {id n r:Nat} {a:Act} {w:World} {l:List Oper} (S:World→Prop) (ns:List Nat) (hm:P.follows .mixedOrders=true)
 (hB:(noDefer l&&(decide (0<l.length)&&lastB2 .any l.toArray (l.length-1)&&(Region.noSelect (nopLast l).toArray&&segB .any (nopLast l).toArray ns l.length 0 (Array.replicate l.length false))))=true)
 (hQ:∀c a a' w,Q (.panic c) a w→Q (.panic c) a' w) (hO:∀a w,¬ Q .outgrown a w)
 (hS:S w.drew) (h:segH P (nopLast l).toArray S (Exit.then (fun a w=>wpList P l.toArray Q (lastOf l) a w) Q) ns (nopLast l) a w.drew):(Code.region id l.toArray true).wpIn (Fence.wide.inRound r) n P Q a w:=by
 rw [Bool.and_eq_true] at hB
 obtain⟨hD,hB⟩:=hB
 simp only [Bool.and_eq_true,decide_eq_true_eq] at hB
 obtain⟨⟨h0,hB1⟩,hB2,hB3⟩:=hB
 obtain⟨hd,o,e1,e2,e3⟩:=last_split l (by intro hl;rw [hl] at h0;cases h0)
 rw [e2,e3] at h
 rw [e2] at hB2 hB3
 subst e1
 have hl1:(hd++[o]).length-1=hd.length:=by simp
 rw [hl1] at hB1
 refine wpIn_region_any hm (any_round (noDefer_spec hD) hO _ _ _ _ (?_:wpAny P .any (hd++[o]).toArray Q _ _ a w.drew))
 refine nop_any2 hd o hB1 _ _ a _ (by simp) (by simp) (closed_start _) (wpAny_of_held (S:=S) _ _ _ _ ?_)
 have:=seg_walk (md:=.any) (Q:=Exit.then (fun a w=>wpList P (hd++[o]).toArray Q [o] a w) Q) hB2 (fun c a a' w h=>hQ c a a' w h) ns (hd++[nop o]) 0 _ a w.drew (fun j=>by simp) (by simpa using hB3) hS h
 simpa using this
end
end Go.Proofs.YtlbclfmbejjneaaGreatDoor
