/- Part 27 (merged by a program): lemmas of no further condition than each states. -/
import Derived.Test.YtlmjbfncopbilaaGreatDoorK26
namespace Go.Proofs.YtlmjbfncopbilaaGreatDoor
set_option linter.unusedVariables false
set_option linter.unusedSimpArgs false
section
open Go.RowKit
def shapedI (cs:List Int):List Int:=(List.range cs.length).map fun i=>shapeI (ith cs i) (ith (formsI cs) i)
theorem shapedI_len (cs:List Int):(shapedI cs).length=cs.length:=by unfold shapedI;simp
def shN (cs:List Int) (n i:Nat):List Int:=(List.range n).map fun j=>if j<i then shapeI (ith cs j) (ith (formsI cs) j) else 0
theorem shN_len (cs:List Int) (n i:Nat):(shN cs n i).length=n:=by unfold shN;simp
theorem shN_ith (cs:List Int) (n i j:Nat) (h:j<n):ith (shN cs n i) j=if j<i then shapeI (ith cs j) (ith (formsI cs) j) else 0:=by
 unfold shN ith
 rw [List.getD_eq_getElem?_getD,List.getElem?_map,List.getElem?_range h]
 rfl
theorem shN_next (cs:List Int) (n i:Nat):(shN cs n i).set i (shapeI (ith cs i) (ith (formsI cs) i))=shN cs n (i+1):=by
 apply List.ext_getElem?
 intro j
 unfold shN
 rw [List.getElem?_set,List.getElem?_map,List.getElem?_map,List.length_map,List.length_range]
 by_cases hj:j<n
 ·rw [List.getElem?_range hj]
  by_cases e:i=j
  ·subst e
   simp [hj]
  ·rw [if_neg e]
   simp only [Option.map_some]
   congr 1
   by_cases h1:j<i
   ·rw [if_pos h1,if_pos (by omega)]
   ·rw [if_neg h1,if_neg (by omega)]
 ·rw [List.getElem?_eq_none (by simp;omega)]
  simp
  intro e
  omega
theorem shN_all (cs:List Int):shN cs cs.length cs.length=shapedI cs:=by
 unfold shN shapedI
 apply List.map_congr_left
 intro j hj
 rw [if_pos (List.mem_range.1 hj)]
def ShapedPost (cs:List Int) (n:Nat) (w:World) (e:Ending) (w':World):Prop :=
 e=.returned (.slice (some ⟨w.heap.size,0,none⟩) n n)∧OutAt .i32 21 w' w.heap.size (some ⟨w.heap.size,0,none⟩) n (shapedI cs)∧Below w.heap.size w w'
set_option maxRecDepth 100000 in
set_option maxHeartbeats 2000000 in
theorem Shaped_any (a:Option Addr) (cs:List Int) (n c:Nat) (w:World) (hl:cs.length=n) (hd:Rd .i32 w a cs) (hn:n≤2097152) :
 Calls Tryz.prog 128 #[.slice a n c] w (ShapedPost cs n w):=by
 obtain⟨i3,hi3,hz3,ha3,hb3⟩:=info_parts (Tryz.info_rune)
 have HL:=lh hl
 have hmk:=run_make_row (P:=Tryz.prog) 137 21 i3 (.int .i32 0) Tryz.underlying137 hi3 hz3 ha3 rfl .i64 .i64 n (by rw [hb3];omega) (by omega)
 clear hl
 go_enter Tryz.func128,Tryz.ntmps128
 go_upto_region 2 with (fail)
 clear hmk
 have hO0:OutAt .i32 21 (w.alloc (.cells (madeCells #[.int .i32 0] n) 21)) w.heap.size (some ⟨w.heap.size,0,none⟩) n (shN cs n 0) :=
  out_of_row ((World.rowIs_made w (.int .i32 0) n 21).congr fun i hi=>by rw [shN_ith _ _ _ _ hi,if_neg (Nat.not_lt_zero _)]) (shN_len _ _ _) (Nat.le_refl _) (by unfold maxLen;omega)
 have hb0:=(Below.refl w.heap.size w).alloc (Nat.le_refl _) (.cells (madeCells #[.int .i32 0] n) 21)
 have hs0:w.heap.size<(w.alloc (.cells (madeCells #[.int .i32 0] n) 21)).heap.size:=by simp
 generalize w.alloc (.cells (madeCells #[.int .i32 0] n) 21)=w0 at hO0 hb0 hs0 ⊢
 have HFO:=lh (Forms_any a cs n c w0 HL.out (hd.below hb0) hn)
 have HO0:=lh hO0
 have HB0:=lh hb0
 clear hO0 hb0
 go_upto_block 0 with (go_at_call 168;refine HFO.out.mono ?_;rintro e w1 ⟨rfl,ho1,hb1⟩)
 have HO1:=lh (HO0.out.keep hb1)
 have HB1:=lh (HB0.out.trans (hb1.mono HB0.out.size))
 have HF1:=lh ho1
 clear ho1 hb1 HFO HO0 HB0
 obtain⟨B0,hB0⟩:∃B0,w0.heap.size=B0:=⟨_,rfl⟩
 rw [hB0] at HF1 hs0 ⊢
 clear hB0
 go_wp2_with (fail)
 go_loopw [4,5,12] (fun _ _ u wx=>∃i:Nat,i≤n∧u=.int .i64 i∧OutAt .i32 21 wx w.heap.size (some ⟨w.heap.size,0,none⟩) n (shN cs n i)∧OutAt .i8 22 wx B0 (some ⟨B0,0,none⟩) n (formsI cs)∧Below w.heap.size w wx) (fun _ _ u _=>n-(intOf u).toNat)
 case atStart=>exact⟨0,by omega,rfl,HO1.out,HF1.out,HB1.out⟩
 case round =>
  obtain⟨i,hi,rfl,hO,hF,hbel⟩:=hrel
  clear HO1 HF1 HB1
  by_cases hlt:i<n
  ·obtain⟨G,o,rfl,hG,hcl⟩:=hd.at hbel i (by rw [HL.out];exact hlt)
   obtain⟨_,hGe,_,_,hXo,hFo,_,_⟩:=hO.at i (by rw [shN_len];exact hlt)
   cases hGe
   obtain⟨_,hGe,_,hGl,hXf,_,_,_⟩:=hF.at i (by rw [formsI_len,HL.out];exact hlt)
   cases hGe
   have hnx:=shN_next cs n i
   obtain⟨y,hy⟩:∃y,ith cs i=y:=⟨_,rfl⟩
   obtain⟨f,hf⟩:∃f,ith (formsI cs) i=f:=⟨_,rfl⟩
   rw [hy] at hcl hnx
   rw [hf] at hXf hnx
   obtain⟨x,hx⟩:∃x,shapeI y f=x:=⟨_,rfl⟩
   rw [hx] at hnx
   have HSH:Hid (∀W,Calls Tryz.prog 169 #[.int .i32 y,.int .i8 f] W fun e w'=>e=.returned (.int .i32 x)∧Below W.heap.size W w'):=lh fun W=>hx▸Shape_any y f W
   have HNX:=lh hnx
   have HO:=lh hO
   have HF:=lh hF
   have HBE:=lh hbel
   generalize ith (shN cs n i) i=vo at hXo
   have gi0:(0:Int)≤(i:Int):=by omega
   have gi1:(i:Int)<(n:Int):=by omega
   have hzl:w.heap.size<wr.heap.size:=HO.out.lt.2
   clear hO hF hbel hy hf hx hnx
   go_wp2_with (go_at_call 169;refine (HSH.out _).mono ?_;rintro e w2 ⟨rfl,hw2⟩;have hx2:=(hw2.cell (p:=⟨w.heap.size,i,none⟩) hzl).trans hXo;have hf2:=(hw2.frozen (p:=⟨w.heap.size,i,none⟩) hzl).trans hFo;have HW2:=lh hw2;clear hw2)
   have hO3:=(HO.out.keep HW2.out).set i x
   rw [HNX.out] at hO3
   have hF3:OutAt .i8 22 (w2.setCell ⟨w.heap.size,i,none⟩ (.int .i32 x)) B0 (some ⟨B0,0,none⟩) n (formsI cs):=row_other (HF.out.keep HW2.out) (fun g hg=>by cases hg;show B0≠w.heap.size;omega)
   have hb3:Below w.heap.size w (w2.setCell ⟨w.heap.size,i,none⟩ (.int .i32 x)):=(HBE.out.trans (HW2.out.mono HBE.out.size)).setCell (p:=⟨w.heap.size,i,none⟩) (Nat.le_refl _) _
   have HO3:=lh hO3
   have HF3:=lh hF3
   have HB3:=lh hb3
   clear hO3 hF3 hb3
   go_roundw
   case rel=>exact⟨i+1,by omega,by go_num,HO3.out,HF3.out,HB3.out⟩
   case measure=>simp [intOf];omega
  ·have hie:i=n:=by omega
   subst hie
   have hall:shN cs i i=shapedI cs:=by rw [←HL.out];exact shN_all cs
   rw [hall] at hO
   have HO:=lh hO
   have HB:=lh hbel
   clear hO hF hbel hall
   go_wp2_with (fail)
   go_ret
   exact⟨rfl,HO.out,HB.out⟩
end
section
def madeI (s:ByteArray) (join:Bool) (fr tt:Nat):List Int:=if join=true then shapedI (runesI (s.extract fr tt)) else runesI (s.extract fr tt)
theorem madeI_len (s:ByteArray) (join:Bool) (fr tt:Nat):(madeI s join fr tt).length=(runesI (s.extract fr tt)).length:=by
 unfold madeI
 split
 ·exact shapedI_len _
 ·rfl
def lay2 (s:ByteArray) (want:Int) (join raw:Bool) (ra rl:Int):List Pc :=
 (levelsI s want raw (rowFr s ra) (foundI s (rowFr s ra) (rowTo s ra rl))).map (changeP s (madeI s join (rowFr s ra) (rowTo s ra rl)))
def lay3 (s:ByteArray) (tab want:Int) (wideA join raw:Bool) (ra rl rw:Int):List Pc × Int :=
 layF rw tab wideA raw (lay2 s want join raw ra rl) 0 0 (tailF s (lay2 s want join raw ra rl) (lay2 s want join raw ra rl).length)
def laySeen (s:ByteArray) (want:Int) (join raw:Bool) (ra rl:Int):List Int:=orderI ((lay2 s want join raw ra rl).map (·.level))
def layL (s:ByteArray) (tab want:Int) (wideA join raw:Bool) (ra rl rw:Int):List Pc:=edgeF (laySeen s want join raw ra rl) 0 (lay3 s tab want wideA join raw ra rl rw).1
def layI (s:ByteArray) (tab want:Int) (wideA join raw:Bool) (ra rl rw:Int):LaidR :=
 ⟨layL s tab want wideA join raw ra rl rw,laySeen s want join raw ra rl,rowFr s ra,rowTo s ra rl,baseR s want raw,(lay3 s tab want wideA join raw ra rl rw).2⟩
structure Ce where
 text:ByteArray
 part:Int
 a:Nat
 len:Nat
 right:Bool
deriving DecidableEq
def dotS:ByteArray:=⟨#[226,151,140]⟩
def dotB (s:ByteArray):Bool:=decide (3≤s.size)&&decide (s.extract 0 3=dotS)
def wholeB (p:Pc):Bool:=decide (p.shown=p.became)||dotB p.shown
def oddB (p:Pc):Bool:=decide (p.level % 2=1)
def cellsP (p:Pc):List Ce :=
 (List.range p.wide.toNat).map fun (i:Nat) =>
   if wholeB p=true then Ce.mk (if i=0 then p.shown else ⟨#[]⟩) (i:Int) p.a p.size (oddB p)
   else Ce.mk ⟨#[p.shown.get! i]⟩ 0 p.a p.size (oddB p)
def cellsF (L:List Pc):List Int→List Ce
 | []=>[]
 | i::t=>(if 0<(L.getD i.toNat default).wide then cellsP (L.getD i.toNat default) else [])++cellsF L t
def cellsI (W:LaidR):List Ce:=cellsF W.l W.seen
def asciiB (s:ByteArray):Bool:=s.data.toList.all fun b=>decide (b.toNat<128)
def GoodP (p:Pc):Prop:=0<p.wide→p.wide≤19∧(wholeB p=true∨asciiB p.shown=true∧p.wide=p.shown.size)
def edgeI (W:LaidR) (i:Nat) (back:Bool):Int :=
 if back=true∧i=0 then (if W.base % 2=1 then W.wide else 0)
 else if back=true then (if oddB (W.l.getD (i-1) default)=true then (W.l.getD (i-1) default).e0 else (W.l.getD (i-1) default).e1)
 else if i=W.l.length then (if W.base % 2=1 then 0 else W.wide)
 else (if oddB (W.l.getD i default)=true then (W.l.getD i default).e1 else (W.l.getD i default).e0)
def leftF (c:Int):List Pc→Nat
 | []=>0
 | p::t=>if ((p.a+p.size:Nat):Int)≤c then leftF c t+1 else 0
def placeI (W:LaidR) (c:Int) (back:Bool):Int:=edgeI W (leftF c W.l) back
theorem tailF_le (s:ByteArray) (L:List Pc):∀t,tailF s L t≤t
 | 0=>Nat.le_refl _
 | t+1=>by
   rw [tailF]
   split
   ·have:=tailF_le s L t;omega
   ·exact Nat.le_refl _
def tlF (rw:Int) (i:Nat) (x n t:Int):Int:=if t≤(i:Int)∧rw<x+n then -1 else t
theorem layF_cons (rw tab:Int) (wideA raw:Bool) (p:Pc) (L:List Pc) (i:Nat) (x t:Int):layF rw tab wideA raw (p::L) i x t =
 if 0≤tlF rw i x (textI p.became x tab wideA raw).2 t then
  ({p with shown:=(textI p.became x tab wideA raw).1,wide:=(textI p.became x tab wideA raw).2 }::(layF rw tab wideA raw L (i+1) (x+(textI p.became x tab wideA raw).2) (tlF rw i x (textI p.became x tab wideA raw).2 t)).1,
    (layF rw tab wideA raw L (i+1) (x+(textI p.became x tab wideA raw).2) (tlF rw i x (textI p.became x tab wideA raw).2 t)).2)
 else (p::(layF rw tab wideA raw L (i+1) x (-1)).1,(layF rw tab wideA raw L (i+1) x (-1)).2):=rfl
theorem layF_len (rw tab:Int) (wideA raw:Bool):∀(L:List Pc) (i:Nat) (x t:Int),(layF rw tab wideA raw L i x t).1.length=L.length
 | [],_,_,_=>rfl
 | p::L,i,x,t=>by
   rw [layF_cons]
   by_cases h:0≤tlF rw i x (textI p.became x tab wideA raw).2 t
   ·rw [if_pos h];simp only [List.length_cons,layF_len rw tab wideA raw L]
   ·rw [if_neg h];simp only [List.length_cons,layF_len rw tab wideA raw L]
def LaidP (tab:Int) (wideA raw:Bool) (p q:Pc):Prop:=q=p∨∃x:Int,q={ p with shown:=(textI p.became x tab wideA raw).1,wide:=(textI p.became x tab wideA raw).2 }
theorem layF_get (rw tab:Int) (wideA raw:Bool):∀(L:List Pc) (i:Nat) (x t:Int) (j:Nat) (p:Pc),L[j]? = some p→∃q,(layF rw tab wideA raw L i x t).1[j]? = some q∧LaidP tab wideA raw p q
 | [],_,_,_,j,p,h=>by simp at h
 | r::L,i,x,t,0,p,h=>by
   have:r=p:=by simpa using h
   subst this
   rw [layF_cons]
   by_cases h2:0≤tlF rw i x (textI r.became x tab wideA raw).2 t
   ·rw [if_pos h2];exact⟨_,rfl,.inr ⟨x,rfl⟩⟩
   ·rw [if_neg h2];exact⟨_,rfl,.inl rfl⟩
 | r::L,i,x,t,j+1,p,h=>by
   rw [layF_cons]
   by_cases h2:0≤tlF rw i x (textI r.became x tab wideA raw).2 t
   ·rw [if_pos h2];exact layF_get rw tab wideA raw L _ _ _ j p (by simpa using h)
   ·rw [if_neg h2];exact layF_get rw tab wideA raw L _ _ _ j p (by simpa using h)
def wsum:List Pc→Int
 | []=>0
 | p::t=>p.wide+wsum t
theorem layF_sum (rw tab:Int) (wideA raw:Bool):∀(L:List Pc) (i:Nat) (x t:Int),(∀p∈L,p.wide=0)→(layF rw tab wideA raw L i x t).2=x+wsum (layF rw tab wideA raw L i x t).1
 | [],_,x,_,_=>by simp [layF,wsum]
 | p::L,i,x,t,h=>by
   have h1:=h p (List.mem_cons_self ..)
   have h2:∀q∈L,q.wide=0:=fun q hq=>h q (List.mem_cons_of_mem _ hq)
   rw [layF_cons]
   by_cases h3:0≤tlF rw i x (textI p.became x tab wideA raw).2 t
   ·rw [if_pos h3]
    dsimp only
    rw [layF_sum rw tab wideA raw L _ _ _ h2,wsum]
    dsimp only
    omega
   ·rw [if_neg h3]
    dsimp only
    rw [layF_sum rw tab wideA raw L _ _ _ h2,wsum,h1]
    omega
theorem edgeF_len:∀(o:List Int) (x:Int) (L:List Pc),(edgeF o x L).length=L.length
 | [],_,_=>rfl
 | i::t,x,L=>by rw [edgeF,edgeF_len t,List.length_set]
end
section
structure St where
 a:Nat
 back:Bool
 x:Int
deriving DecidableEq
instance:Inhabited St:=⟨⟨0,false,0⟩⟩
def hasA (W:LaidR) (cut:Bool) (p:Nat):Bool:=decide (p<W.tt)||!cut||decide (W.fr=W.tt)
def hasB (W:LaidR) (cut:Bool) (i p:Nat):Bool:=decide (W.fr<p)&&(decide (edgeI W i false≠edgeI W i true)||(cut&&decide (p=W.tt)))
def stopAt (W:LaidR) (cut:Bool) (i p:Nat):List St :=
 (if hasA W cut p=true then [⟨p,false,edgeI W i false⟩] else [])++(if hasB W cut i p=true then [⟨p,true,edgeI W i true⟩] else [])
def stopsF (W:LaidR) (cut:Bool):List Pc→Nat→List St
 | [],i=>stopAt W cut i W.tt
 | p::t,i=>stopAt W cut i p.a++stopsF W cut t (i+1)
def cutB (fin:Int):Bool:=decide (fin=2)||decide (fin=3)
def swapL (l:List St) (j:Nat):List St:=(l.set (j+1) (l.getD j default)).set j (l.getD (j+1) default)
def insJ (l:List St):Nat→List St
 | 0=>l
 | j+1=>if (l.getD (j+1) default).x<(l.getD j default).x then insJ (swapL l j) j else l
def sortJ:Nat→Nat→List St→List St
 | 0,_,l=>l
 | m+1,i,l=>sortJ m (i+1) (insJ l i)
def rawS (W:LaidR) (fin:Int):List St:=stopsF W (cutB fin) W.l 0
def stopsI (W:LaidR) (fin:Int):List St:=sortJ ((rawS W fin).length-1) 1 (rawS W fin)
def gapI (a b:Int):Int:=max (a-b) (b-a)
def bestF (x:Int):List St→St→St
 | [],b=>b
 | s::t,b=>bestF x t (if gapI s.x x<gapI b.x x then s else b)
def hitI (W:LaidR) (fin x:Int):St:=bestF (min (max x 0) W.wide) (stopsI W fin) ((stopsI W fin).getD 0 default)
theorem swapL_len (l:List St) (j:Nat):(swapL l j).length=l.length:=by unfold swapL;rw [List.length_set,List.length_set]
theorem insJ_len:∀(j:Nat) (l:List St),(insJ l j).length=l.length
 | 0,_=>rfl
 | j+1,l=>by
   rw [insJ]
   split
   ·rw [insJ_len j,swapL_len]
   ·rfl
theorem sortJ_len:∀(m i:Nat) (l:List St),(sortJ m i l).length=l.length
 | 0,_,_=>rfl
 | m+1,i,l=>by rw [sortJ,sortJ_len m,insJ_len]
theorem stopAt_len (W:LaidR) (cut:Bool) (i p:Nat):(stopAt W cut i p).length≤2:=by
 unfold stopAt
 rw [List.length_append]
 split <;> split <;> simp
theorem stopsF_len (W:LaidR) (cut:Bool):∀(L:List Pc) (i:Nat),(stopsF W cut L i).length≤2*L.length+2
 | [],i=>by rw [stopsF];exact stopAt_len W cut i W.tt
 | p::t,i=>by
   rw [stopsF,List.length_append,List.length_cons]
   have h1:=stopAt_len W cut i p.a
   have h2:=stopsF_len W cut t (i+1)
   omega
end
section
def insL (x:St):List St→List St
 | []=>[x]
 | y::t=>if y.x<x.x then y::insL x t else x::y::t
def isrt:List St→List St
 | []=>[]
 | x::t=>insL x (isrt t)
def mg (A B:List St):List St:=A.foldr insL B
def SrtL:List St→Prop
 | []=>True
 | x::t=>(∀y∈t,x.x≤y.x)∧SrtL t
theorem insL_mem (x:St):∀(l:List St) (z:St),z∈insL x l↔z=x∨z∈l
 | [],z=>by simp [insL]
 | y::t,z=>by
   rw [insL]
   split
   ·rw [List.mem_cons,insL_mem x t z,List.mem_cons]
    constructor
    ·rintro (h | h | h)
     ·exact .inr (.inl h)
     ·exact .inl h
     ·exact .inr (.inr h)
    ·rintro (h | h | h)
     ·exact .inr (.inl h)
     ·exact .inl h
     ·exact .inr (.inr h)
   ·rw [List.mem_cons]
theorem insL_len (x:St):∀l:List St,(insL x l).length=l.length+1
 | []=>rfl
 | y::t=>by
   rw [insL]
   split
   ·rw [List.length_cons,insL_len x t,List.length_cons]
   ·rfl
theorem isrt_len:∀l:List St,(isrt l).length=l.length
 | []=>rfl
 | x::t=>by rw [isrt,insL_len,isrt_len t,List.length_cons]
theorem isrt_mem:∀(l:List St) (z:St),z∈isrt l↔z∈l
 | [],z=>Iff.rfl
 | x::t,z=>by rw [isrt,insL_mem,isrt_mem t z,List.mem_cons]
theorem insL_srt (x:St):∀l:List St,SrtL l→SrtL (insL x l)
 | [],_=>⟨fun y hy=>absurd hy (by simp),trivial⟩
 | y::t,⟨h1,h2⟩=>by
   rw [insL]
   split
   ·rename_i hlt
    refine⟨fun z hz=>?_,insL_srt x t h2⟩
    rcases (insL_mem x t z).1 hz with rfl | hz
    ·omega
    ·exact h1 z hz
   ·rename_i hlt
    refine⟨fun z hz=>?_,h1,h2⟩
    rcases List.mem_cons.1 hz with rfl | hz
    ·omega
    ·have:=h1 z hz
     omega
theorem isrt_srt:∀l:List St,SrtL (isrt l)
 | []=>trivial
 | x::t=>insL_srt x _ (isrt_srt t)
theorem insL_front (x:St) (l:List St) (h:∀y∈l,x.x≤y.x):insL x l=x::l:=by
 cases l with
 | nil=>rfl
 | cons y t =>
   rw [insL,if_neg]
   have:=h y (List.mem_cons_self ..)
   omega
theorem isrt_id:∀l:List St,SrtL l→isrt l=l
 | [],_=>rfl
 | x::t,⟨h1,h2⟩=>by rw [isrt,isrt_id t h2,insL_front x t h1]
theorem insL_comm (a x:St) (h:a.x<x.x):∀D:List St,insL a (insL x D)=insL x (insL a D)
 | []=>by
   rw [insL,insL,insL,if_neg (by omega),insL,if_pos h,insL]
 | y::t=>by
   by_cases h1:y.x<x.x
   ·by_cases h2:y.x<a.x
    ·have e1:insL x (y::t)=y::insL x t:=by rw [insL,if_pos h1]
     have e2:insL a (y::t)=y::insL a t:=by rw [insL,if_pos h2]
     rw [e1,e2,insL,if_pos h2,insL,if_pos h1,insL_comm a x h t]
    ·have e1:insL x (y::t)=y::insL x t:=by rw [insL,if_pos h1]
     have e2:insL a (y::t)=a::y::t:=by rw [insL,if_neg h2]
     rw [e1,e2,insL,if_neg h2,insL,if_pos h,e1]
   ·have h2:¬ y.x<a.x:=by omega
    have e1:insL x (y::t)=x::y::t:=by rw [insL,if_neg h1]
    have e2:insL a (y::t)=a::y::t:=by rw [insL,if_neg h2]
    rw [e1,e2,insL,if_neg (by omega),insL,if_pos h,e1]
theorem mg_insL (x:St) (C:List St):∀A:List St,mg (insL x A) C=insL x (mg A C)
 | []=>rfl
 | a::A=>by
   rw [insL]
   split
   ·rename_i h
    show insL a (mg (insL x A) C)=insL x (insL a (mg A C))
    rw [mg_insL x C A,insL_comm a x h]
   ·rfl
theorem mg_isrt (C:List St):∀A:List St,mg (isrt A) C=mg A C
 | []=>rfl
 | a::A=>by
   rw [isrt,mg_insL,mg_isrt C A]
   rfl
theorem isrt_app (B:List St):∀A:List St,isrt (A++B)=mg A (isrt B)
 | []=>rfl
 | a::A=>by
   rw [List.cons_append,isrt,isrt_app B A]
   rfl
theorem isrt_mg (A B:List St):mg (isrt A) (isrt B)=isrt (A++B):=by rw [mg_isrt,isrt_app]
theorem insL_past (a:St):∀(B C:List St),(∀b∈B,b.x<a.x)→insL a (B++C)=B++insL a C
 | [],C,_=>rfl
 | b::B,C,h=>by
   rw [List.cons_append,insL,if_pos (h b (List.mem_cons_self ..)),insL_past a B C (fun y hy=>h y (List.mem_cons_of_mem _ hy))]
   rfl
theorem insL_within (a:St) (C:List St) (h:∀c∈C,a.x≤c.x):∀D:List St,insL a (D++C)=insL a D++C
 | []=>by rw [List.nil_append,insL_front a C h];rfl
 | d::D=>by
   rw [List.cons_append,insL,insL]
   split
   ·rw [insL_within a C h D];rfl
   ·rfl
theorem mg_mem:∀(A B:List St) (z:St),z∈mg A B↔z∈A∨z∈B
 | [],B,z=>by simp [mg]
 | a::A,B,z=>by
   show z∈insL a (mg A B)↔_
   rw [insL_mem,mg_mem A B z,List.mem_cons,or_assoc]
theorem mg_len:∀(A B:List St),(mg A B).length=A.length+B.length
 | [],B=>by simp [mg]
 | a::A,B=>by
   show (insL a (mg A B)).length=_
   rw [insL_len,mg_len A B,List.length_cons]
   omega
theorem mg_past (B C:List St):∀A:List St,(∀a∈A,∀b∈B,b.x<a.x)→mg A (B++C)=B++mg A C
 | [],_=>rfl
 | a::A,h=>by
   show insL a (mg A (B++C))=B++insL a (mg A C)
   rw [mg_past B C A (fun y hy=>h y (List.mem_cons_of_mem _ hy)),insL_past a B _ (h a (List.mem_cons_self ..))]
theorem mg_within (B C:List St):∀A:List St,(∀a∈A,∀c∈C,a.x≤c.x)→mg A (B++C)=mg A B++C
 | [],_=>rfl
 | a::A,h=>by
   show insL a (mg A (B++C))=insL a (mg A B)++C
   rw [mg_within B C A (fun y hy=>h y (List.mem_cons_of_mem _ hy)),insL_within a C (h a (List.mem_cons_self ..))]
theorem mg_app (C:List St) (A2:List St):∀A1:List St,mg (A1++A2) C=mg A1 (mg A2 C)
 | []=>rfl
 | a::A=>by
   show insL a (mg (A++A2) C)=insL a (mg A (mg A2 C))
   rw [mg_app C A2 A]
theorem mg_split (A1 A2 B1 B2:List St) (h1:∀a∈A1,∀b∈B2,a.x≤b.x) (h2:∀a∈A1,∀b∈A2,a.x≤b.x) (h3:∀a∈A2,∀b∈B1,b.x<a.x):mg (A1++A2) (B1++B2)=mg A1 B1++mg A2 B2:=by
 rw [mg_app,mg_past B1 B2 A2 h3,mg_within B1 (mg A2 B2) A1]
 intro a ha c hc
 rcases (mg_mem A2 B2 c).1 hc with h | h
 ·exact h2 a ha c h
 ·exact h1 a ha c h
theorem mg_nil (A:List St) (h:SrtL A):mg A []=A:=by
 have:=isrt_app [] A
 rw [List.append_nil] at this
 exact this.symm.trans (isrt_id A h)
theorem srt_app:∀(A B:List St),SrtL (A++B)↔SrtL A∧SrtL B∧∀a∈A,∀b∈B,a.x≤b.x
 | [],B=>by simp [SrtL]
 | a::A,B=>by
   rw [List.cons_append,SrtL,SrtL,srt_app A B]
   constructor
   ·rintro⟨h1,h2,h3,h4⟩
    refine⟨⟨fun y hy=>h1 y (List.mem_append_left _ hy),h2⟩,h3,fun x hx b hb=>?_⟩
    rcases List.mem_cons.1 hx with rfl | hx
    ·exact h1 b (List.mem_append_right _ hb)
    ·exact h4 x hx b hb
   ·rintro⟨⟨h1,h2⟩,h3,h4⟩
    refine⟨fun y hy=>?_,h2,h3,fun x hx b hb=>h4 x (List.mem_cons_of_mem _ hx) b hb⟩
    rcases List.mem_append.1 hy with hy | hy
    ·exact h1 y hy
    ·exact h4 a (List.mem_cons_self ..) y hy
theorem srt_get:∀(l:List St),SrtL l→∀(i j:Nat) (x y:St),i≤j→l[i]? = some x→l[j]? = some y→x.x≤y.x
 | [],_,i,j,x,y,_,h,_=>by simp at h
 | z::t,⟨h1,h2⟩,0,j,x,y,_,hx,hy=>by
   have:z=x:=by simpa using hx
   subst this
   cases j with
   | zero =>
     have:z=y:=by simpa using hy
     subst this
     exact Int.le_refl _
   | succ j=>exact h1 y (List.mem_of_getElem? (by simpa using hy))
 | z::t,⟨h1,h2⟩,i+1,0,x,y,h,_,_=>absurd h (by omega)
 | z::t,⟨h1,h2⟩,i+1,j+1,x,y,h,hx,hy=>srt_get t h2 i j x y (by omega) (by simpa using hx) (by simpa using hy)
theorem mg_parted (A B:List St) (hA:SrtL A) (hB:SrtL B) (s e:Nat) (hs:s≤A.length) (he:e≤B.length)
 (h1:s=0∨e=B.length∨∃x y,A[s-1]? = some x∧B[e]? = some y∧x.x≤y.x) (h2:s=A.length∨e=0∨∃x y,A[s]? = some x∧B[e-1]? = some y∧y.x<x.x) :
 mg A B=mg (A.take s) (B.take e)++mg (A.drop s) (B.drop e):=by
 have key:=mg_split (A.take s) (A.drop s) (B.take e) (B.drop e)
 rw [List.take_append_drop,List.take_append_drop] at key
 have gt:∀{l:List St} {n:Nat} {z:St},z∈l.take n→∃i,i<n∧l[i]? = some z:=fun {l n z} h=>by
  obtain⟨i,hi⟩:=List.mem_iff_getElem?.1 h
  rw [List.getElem?_take] at hi
  split at hi
  ·rename_i h'
   exact⟨i,h',hi⟩
  ·cases hi
 have gd:∀{l:List St} {n:Nat} {z:St},z∈l.drop n→∃i,n≤i∧l[i]? = some z:=fun {l n z} h=>by
  obtain⟨i,hi⟩:=List.mem_iff_getElem?.1 h
  rw [List.getElem?_drop] at hi
  exact⟨n+i,by omega,hi⟩
 refine key (fun a ha b hb=>?_) (fun a ha b hb=>?_) (fun a ha b hb=>?_)
 ·obtain⟨i,hi,hx⟩:=gt ha
  obtain⟨j,hj,hy⟩:=gd hb
  have hjl:=(List.getElem?_eq_some_iff.1 hy).1
  rcases h1 with h | h | ⟨x,y,g1,g2,g3⟩
  ·omega
  ·omega
  ·have k1:=srt_get A hA i (s-1) a x (by omega) hx g1
   have k2:=srt_get B hB e j y b (by omega) g2 hy
   omega
 ·obtain⟨i,hi,hx⟩:=gt ha
  obtain⟨j,hj,hy⟩:=gd hb
  exact srt_get A hA i j a b (by omega) hx hy
 ·obtain⟨i,hi,hx⟩:=gd ha
  obtain⟨j,hj,hy⟩:=gt hb
  have hil:=(List.getElem?_eq_some_iff.1 hx).1
  rcases h2 with h | h | ⟨x,y,g1,g2,g3⟩
  ·omega
  ·omega
  ·have k1:=srt_get A hA s i x a (by omega) g1 hx
   have k2:=srt_get B hB j (e-1) b y (by omega) hy g2
   omega
theorem set_app (P Q:List St) (x y:St):(P++x::Q).set P.length y=P++y::Q:=by
 rw [List.set_append_right _ _ (Nat.le_refl _),Nat.sub_self]
 rfl
theorem getD_app (P Q:List St) (x d:St):(P++x::Q).getD P.length d=x:=by
 rw [List.getD_eq_getElem?_getD,List.getElem?_append_right (Nat.le_refl _),Nat.sub_self]
 rfl
theorem getS_app (P Q:List St) (x:St):(P++x::Q)[P.length]? = some x:=by
 rw [List.getElem?_append_right (Nat.le_refl _),Nat.sub_self]
 rfl
theorem swapL_app (P Q:List St) (y x:St):swapL (P++y::x::Q) P.length=P++x::y::Q:=by
 unfold swapL
 have e1:P++y::x::Q=(P++[y])++x::Q:=by simp
 have e2:P.length+1=(P++[y]).length:=by simp
 have g1:(P++y::x::Q).getD (P.length+1) default=x:=by rw [e1,e2];exact getD_app _ _ _ _
 have g2:(P++y::x::Q).getD P.length default=y:=getD_app _ _ _ _
 rw [g1,g2,e1,e2,set_app,List.append_assoc]
 exact set_app P _ y x
theorem mg_one_lt (S:List St) (y x:St) (hS:SrtL (S++[y])) (h:x.x<y.x):mg (S++[y]) [x]=mg S [x]++[y]:=by
 rw [mg_app]
 have e:mg [y] [x]=[x]++[y]:=by
  show insL y [x]=_
  rw [insL,if_pos h]
  rfl
 rw [e,mg_within [x] [y] S]
 intro a ha c hc
 exact ((srt_app S [y]).1 hS).2.2 a ha c hc
theorem mg_one_ge (S:List St) (x:St) (hS:SrtL S) (h:∀a∈S,a.x≤x.x):mg S [x]=S++[x]:=by
 have:=mg_within [] [x] S (fun a ha c hc=>by rcases List.mem_singleton.1 hc with rfl;exact h a ha)
 rw [List.nil_append,mg_nil S hS] at this
 exact this
theorem isrt_snoc (T:List St) (x:St):isrt (T++[x])=mg (isrt T) [x]:=by rw [isrt_app,mg_isrt];rfl
theorem insJ_app (R:List St) (x:St):∀(n:Nat) (S:List St),S.length=n→SrtL S→insJ (S++x::R) n=mg S [x]++R
 | 0,S,h,_=>by
   rw [List.length_eq_zero_iff.1 h]
   rfl
 | n+1,S,h,hS=>by
   obtain⟨S',y,rfl⟩:∃S' y,S=S'++[y]:=⟨S.dropLast,S.getLast (by intro e;rw [e] at h;simp at h),(List.dropLast_concat_getLast _).symm⟩
   have hl:S'.length=n:=by simpa using h
   have e1:S'++[y]++x::R=S'++y::x::R:=by simp
   have g2:(S'++y::x::R).getD n default=y:=by rw [←hl];exact getD_app _ _ _ _
   have g1:(S'++y::x::R).getD (n+1) default=x:=by
    rw [←e1,←hl,show S'.length+1=(S'++[y]).length by simp]
    exact getD_app _ _ _ _
   rw [e1,insJ,g1,g2]
   split
   ·rename_i hlt
    have hsw:swapL (S'++y::x::R) n=S'++x::y::R:=by rw [←hl];exact swapL_app _ _ _ _
    rw [hsw,insJ_app (y::R) x n S' hl ((srt_app S' [y]).1 hS).1,mg_one_lt S' y x hS hlt]
    simp
   ·rename_i hlt
    rw [mg_one_ge (S'++[y]) x hS]
    ·simp
    ·intro a ha
     rcases List.mem_append.1 ha with ha | ha
     ·have:=((srt_app S' [y]).1 hS).2.2 a ha y (List.mem_singleton.2 rfl)
      omega
     ·rcases List.mem_singleton.1 ha with rfl
      omega
theorem sortJ_app:∀(T2 T1:List St) ,sortJ T2.length T1.length (isrt T1++T2)=isrt (T1++T2)
 | [],T1=>by
   rw [List.append_nil,List.append_nil]
   rfl
 | x::T2,T1=>by
   rw [List.length_cons,sortJ,insJ_app T2 x T1.length (isrt T1) (isrt_len T1) (isrt_srt T1),←isrt_snoc]
   have:=sortJ_app T2 (T1++[x])
   rw [List.length_append,List.append_assoc] at this
   exact this
theorem sortJ_isrt (l:List St):sortJ (l.length-1) 1 l=isrt l:=by
 cases l with
 | nil=>rfl
 | cons x t =>
   have:=sortJ_app t [x]
   exact this
end
section
theorem ascii_app (a b:ByteArray):asciiB (a++b)=(asciiB a&&asciiB b):=by
 unfold asciiB
 rw [show (a++b).data=a.data++b.data from ByteArray.data_append,Array.toList_append,List.all_append]
theorem ascii_nums (l:List Int) (h:∀x∈l,0≤x∧x<128):asciiB (strOfNums l)=true:=by
 unfold asciiB strOfNums
 rw [List.all_eq_true]
 intro b hb
 simp only [List.mem_map] at hb
 obtain⟨x,hx,rfl⟩:=hb
 have:=h x hx
 have e:(UInt8.ofNat x.toNat).toNat=x.toNat:=by
  rw [UInt8.toNat_ofNat']
  omega
 simp only [e,decide_eq_true_eq]
 omega
theorem digI_bd (d:Nat) (h:d<16):0≤digI d∧digI d<128:=by
 unfold digI
 split <;> omega
theorem hexF_bd:∀(f u:Nat) (acc:List Int),(∀x∈acc,0≤x∧x<128)→∀x∈hexF f u acc,0≤x∧x<128
 | 0,u,acc,h,x,hx=>by
   rw [hexF] at hx
   rcases List.mem_cons.1 hx with rfl | hx
   ·exact digI_bd _ (by omega)
   ·exact h x hx
 | f+1,u,acc,h,x,hx=>by
   have hc:∀y∈digI (u % 16)::acc,0≤y∧y<128:=fun y hy=>by
    rcases List.mem_cons.1 hy with rfl | hy
    ·exact digI_bd _ (by omega)
    ·exact h y hy
   rw [hexF] at hx
   split at hx
   ·exact hexF_bd f _ _ hc x hx
   ·exact hc x hx
theorem padF_ascii:∀(f:Nat) (s:ByteArray),asciiB s=true→asciiB (padF f s)=true
 | 0,s,h=>h
 | f+1,s,h=>by
   rw [padF]
   split
   ·refine padF_ascii f _ ?_
    rw [ascii_app,h]
    rfl
   ·exact h
theorem named_ascii (x:Nat):asciiB (namedS x)=true:=by
 unfold namedS
 have h1:asciiB (padF 4 (strOfNums (hexI x)))=true:=padF_ascii _ _ (ascii_nums _ (hexF_bd 16 x [] (fun x h=>by cases h)))
 rw [ascii_app,ascii_app,h1]
 rfl
theorem repeatL_one:∀n:Nat,(Lib.repeatL [(32:UInt8)] n)=List.replicate n 32
 | 0=>rfl
 | n+1=>by
   rw [List.replicate_succ,←repeatL_one n]
   rfl
theorem spaces_ascii (n:Nat):asciiB (spaces n)=true∧(spaces n).size=n:=by
 unfold spaces asciiB
 rw [repeatL_one]
 refine⟨?_,?_⟩
 ·rw [List.all_eq_true]
  intro b hb
  rw [List.mem_replicate] at hb
  rw [hb.2]
  rfl
 ·simp [ByteArray.size]
theorem ctl_all:∀x:Fin 128,(x.val<32∨x.val=127)→asciiB (runesBytes [bits BinOp.xor IntKind.i32 (x.val:Int) 64])=true∧(runesBytes [bits BinOp.xor IntKind.i32 (x.val:Int) 64]).size=1:=by decide +kernel
def GoodT (c:ByteArray) (t:ByteArray × Int):Prop:=0<t.2→t.2≤19∧(t.1=c∨dotB t.1=true∨asciiB t.1=true∧t.2=t.1.size)
theorem dot_pre (s:ByteArray):dotB (⟨#[226,151,140]⟩++s)=true:=by
 unfold dotB
 rw [ByteArray.size_append]
 have h1:(⟨#[226,151,140]⟩++s:ByteArray).extract 0 3=dotS:=by
  rw [ByteArray.extract_append]
  show (dotS.extract 0 3)++s.extract (0-3) (3-3)=dotS
  rw [show s.extract (0-3) (3-3)=⟨#[]⟩ by apply ByteArray.ext;simp]
  rfl
 rw [h1]
 simp only [decide_true,Bool.and_true,decide_eq_true_eq]
 show 3≤3+s.size
 omega
theorem oneI_good (c:ByteArray) (rs:List Int) (col tab:Int) (wide raw:Bool) (h0:0≤ith rs 0):GoodT c (oneI c rs col tab wide raw):=by
 have hbd:=oneI_bd c rs col tab wide raw
 intro hp
 refine⟨hbd.2,?_⟩
 have hst:=stopI_bd col tab
 unfold oneI at hp ⊢
 split
 ·rename_i h
  rw [if_pos h] at hp
  dsimp only at hp ⊢
  obtain⟨h1,h2⟩:=spaces_ascii (stopI col tab).toNat
  exact .inr (.inr ⟨h1,by rw [h2];omega⟩)
 rename_i h1
 rw [if_neg h1] at hp
 split
 ·rename_i h
  rw [if_pos h] at hp
  exact absurd hp (by show ¬ (0:Int)<0;omega)
 rename_i h2
 rw [if_neg h2] at hp
 split
 ·rename_i h
  obtain⟨k,hk,hk2⟩:∃k:Fin 128,ith rs 0=(k.val:Int)∧(k.val<32∨k.val=127):=⟨⟨(ith rs 0).toNat,by omega⟩,by dsimp only;omega,by dsimp only;omega⟩
  obtain⟨e1,e2⟩:=ctl_all k hk2
  rw [hk]
  refine .inr (.inr ⟨?_,?_⟩)
  ·dsimp only
   rw [ascii_app,e1]
   rfl
  ·dsimp only
   rw [ByteArray.size_append,e2]
   rfl
 rename_i h3
 rw [if_neg h3] at hp
 split
 ·rename_i h
  rw [if_pos h] at hp
  split
  ·exact .inr (.inr ⟨named_ascii _,rfl⟩)
  ·rename_i h'
   rw [if_neg h'] at hp
   exact absurd hp (by show ¬ (0:Int)<0;omega)
 rename_i h4
 rw [if_neg h4] at hp
 split
 ·exact .inr (.inl (dot_pre _))
 rename_i h5
 rw [if_neg h5] at hp
 split
 ·exact .inl rfl
 rename_i h6
 rw [if_neg h6] at hp
 split
 ·rename_i h
  rw [if_pos h] at hp
  exact absurd hp (by show ¬ (0:Int)<0;omega)
 ·exact .inl rfl
theorem text_good (c:ByteArray) (h:nextI c=c.size) (col tab:Int) (wide raw:Bool):GoodT c (textI c col tab wide raw):=by
 unfold textI
 rw [h,ByteArray.extract_zero_size]
 unfold textD
 split
 ·intro hp
  exact absurd hp (by show ¬ (0:Int)<0;omega)
 split
 ·intro hp
  refine⟨by show (4:Int)≤19;omega,.inr (.inr ⟨?_,?_⟩)⟩
  ·dsimp only
   rw [ascii_app,ascii_app,ascii_nums]
   ·rfl
   ·intro x hx
    have h8:(c.get! 0).toNat<256:=UInt8.toNat_lt _
    simp only [List.mem_cons,List.not_mem_nil,or_false] at hx
    rcases hx with rfl | rfl <;> exact digI_bd _ (by omega)
  ·dsimp only
   rw [ByteArray.size_append,ByteArray.size_append,strOfNums_size]
   rfl
 ·rename_i h1 h2
  refine oneI_good _ _ _ _ _ _ ?_
  obtain⟨_,hr⟩:=runesI_pos c (by omega)
  rw [hr]
  exact Int.natCast_nonneg _
end
end Go.Proofs.YtlmjbfncopbilaaGreatDoor
