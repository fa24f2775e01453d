/- Part 34 (merged by a program): lemmas of no further condition than each states. -/
import Derived.Test.YtlbclfmbejjneaaGreatDoorR28
import Derived.Test.YtlbclfmbejjneaaGreatDoorR33
namespace Go.Proofs.YtlbclfmbejjneaaGreatDoor
set_option linter.unusedVariables false
set_option linter.unusedSimpArgs false
section
open Go.RowKit Go.Proofs Go.Shelf
attribute [local go_sem] Oper.semAt_some
def frN (fr:Nat) (p:Nat × ByteArray):Nat:=if fr+65536<p.1+p.2.size then p.1 else fr
def outLn (s:ByteArray) (fr:Nat) (p:Nat × ByteArray):List (Nat × ByteArray) :=
 (if fr+65536<p.1+p.2.size then [(fr,s.extract fr p.1)] else [])++(if bkindI p.2=2 then [(frN fr p,s.extract (frN fr p) (p.1+p.2.size))] else [])
def frLn (fr:Nat) (p:Nat × ByteArray):Nat:=if bkindI p.2=2 then p.1+p.2.size else frN fr p
def lnF (s:ByteArray):List (Nat × ByteArray)→Nat→List (Nat × ByteArray)
 | [],fr=>[(fr,s.extract fr s.size)]
 | p::t,fr=>outLn s fr p++lnF s t (frLn fr p)
def linesI (s:ByteArray):List (Nat × ByteArray):=lnF s (piecesI s) 0
def endP:Nat→List (Nat × ByteArray)→Nat
 | a,[]=>a
 | _,p::t=>endP (p.1+p.2.size) t
theorem endP_snoc:∀(l:List (Nat × ByteArray)) (a:Nat) (p:Nat × ByteArray),endP a (l++[p])=p.1+p.2.size
 | [],_,_=>rfl
 | q::t,a,p=>by rw [List.cons_append,endP,endP_snoc t]
theorem chain_at (s:ByteArray):∀(f a:Nat),a≤s.size→∀(pre:List (Nat × ByteArray)) (x:Nat × ByteArray),pre++[x] <+: piecesF s f a→x.1=endP a pre∧x.1+x.2.size≤s.size
 | 0,a,ha,pre,x,h=>by
   have:=h.length_le
   simp [piecesF] at this
 | f+1,a,ha,pre,x,h=>by
   rw [piecesF] at h
   by_cases hlt:a<s.size
   ·rw [if_pos hlt] at h
    have hz:=ext_size s a ha
    have hn:=nextI_bd (s.extract a s.size) (by omega)
    have he:(s.extract a (a+nextI (s.extract a s.size))).size=nextI (s.extract a s.size):=by simp [ByteArray.size_extract];omega
    cases pre with
    | nil =>
      rw [List.nil_append] at h
      obtain⟨hx,_⟩:=List.cons_prefix_cons.1 h
      subst hx
      exact⟨rfl,by show a+_≤_;rw [he];omega⟩
    | cons q t =>
      rw [List.cons_append] at h
      obtain⟨hq,ht⟩:=List.cons_prefix_cons.1 h
      subst hq
      have:=chain_at s f _ (by omega) t x ht
      rw [endP]
      show x.1=endP (a+(s.extract a (a+nextI (s.extract a s.size))).size) t∧_
      rw [he]
      exact this
   ·rw [if_neg hlt] at h
    have:=h.length_le
    simp at this
def KpX (P:Nat→Nat→Prop) (n₀:Nat) (W W':World):Prop:=Below n₀ W W'∧∀b cs t f,¬ P b t→W.heap[b]? = some (.cells cs t f)→W'.heap[b]? = some (.cells cs t f)
theorem KpX.trans {P:Nat→Nat→Prop} {n₀:Nat} {A B C:World} (h:KpX P n₀ A B) (k:KpX P n₀ B C):KpX P n₀ A C:=⟨h.1.trans k.1,fun b cs t f hp ho=>k.2 b cs t f hp (h.2 b cs t f hp ho)⟩
theorem KpX.box {P:Nat→Nat→Prop} {n₀:Nat} {W W':World} (h:KpX P n₀ W W') {b t:Nat} {v:Value} (hb:¬ P b t) (hx:Boxed W b t v):Boxed W' b t v:=h.2 b _ t _ hb hx
theorem kpX_put {w:World} {P:Nat→Nat→Prop} {n₀:Nat} (hn:n₀≤w.heap.size) (W:World) (l:Nat) (o o':Obj) (hl:w.heap.size≤l) (h:W.heap[l]? = some o) (hc:o.isCells=false) (hw:o.isWalk=false):KpX P n₀ W (W.putObj l o') :=
 ⟨belowK_b hn W l o o' hl h hc hw,fun b cs t f hp ho=>by
   have hne:b≠l:=fun e=>by
    subst e
    rw [h] at ho
    cases ho
    cases hc
   exact ((grownBy_putObj' W l o').block b (Array.getElem?_eq_some_iff.1 ho).1 (fun e=>by cases e;exact hne rfl)).trans ho⟩
def LnI (s:ByteArray) (J:List (PieceOf s)→World→Prop) (W0:World) (l L Bs n₀:Nat) (pre:List (PieceOf s)) (W:World):Prop :=
 ∃(out:List (PieceOf s)) (fr:Nat),(∀R,lnF s (pre.map (·.1)++R) 0=out.map (·.1)++lnF s R fr)∧fr≤endP 0 (pre.map (·.1))∧J out W∧Boxed W L 95 (.func (.yield l) #[] #[])∧Boxed W (L+1) 3 (.int .i64 fr) ∧
   Boxed W Bs 9 (.string s)∧Boxed W (L+1+1) 9 (.string s)∧Below n₀ W0 W∧L+3≤W.heap.size
def LnS (s:ByteArray) (J:List (PieceOf s)→World→Prop) (W0:World) (l L Bs n₀:Nat) (X0:World) (out:List (PieceOf s)) (fr:Nat) (X:World):Prop :=
 J out X∧Boxed X L 95 (.func (.yield l) #[] #[])∧Boxed X (L+1) 3 (.int .i64 fr)∧Boxed X Bs 9 (.string s)∧Boxed X (L+1+1) 9 (.string s) ∧
   Below n₀ W0 X∧L+3≤X.heap.size∧KeepsFrom (L+3) X0 X∧Below n₀ X0 X
section
variable {s:ByteArray} {J Jx:List (PieceOf s)→World→Prop} {W0 X0 X Y:World} {l L Bs n₀ fr:Nat} {out out':List (PieceOf s)} {P:Nat→Nat→Prop}
theorem LnS.below (hJ:StaysAt L 2 L J) (hn:n₀≤L) (h:LnS s J W0 l L Bs n₀ X0 out fr X) (hb:Below X.heap.size X Y):LnS s J W0 l L Bs n₀ X0 out fr Y:=by
 obtain⟨a1,a2,a3,a4,a5,a6,a7,a8,a9⟩:=h
 have hbl:∀{b t:Nat} {v:Value},Boxed X b t v→Boxed Y b t v:=fun h=>(hb.block _ (Array.getElem?_eq_some_iff.1 h).1).trans h
 exact⟨hJ.grow a1 hb,hbl a2,hbl a3,hbl a4,hbl a5,a6.trans (hb.mono (by omega)),Nat.le_trans a7 hb.size,a8.trans ((keeps_below hb).from _),a9.trans (hb.mono (by omega))⟩
theorem LnS.store (hJ:StaysAt L 2 L J) (hn:n₀≤L) (hB:Bs<L) (h:LnS s J W0 l L Bs n₀ X0 out fr X) (f:Nat):LnS s J W0 l L Bs n₀ X0 out f (X.setCell ⟨L+1,0,none⟩ (.int .i64 f)):=by
 obtain⟨a1,a2,a3,a4,a5,a6,a7,a8,a9⟩:=h
 have hb:Below n₀ X (X.setCell ⟨L+1,0,none⟩ (.int .i64 f)):=(Below.refl _ _).setCell (p:=⟨L+1,0,none⟩) (by show n₀≤L+1;omega) _
 exact⟨hJ.cell _ a1 (by omega),box_other a2 (by omega),set_at (i:=0) a3 _,box_other a4 (by omega),box_other a5 (by omega),a6.trans hb,Nat.le_trans a7 (KeepsOthers.setCell _ _ _).size,a8.trans ((KeepsOthers.setCell _ _ _).from _),a9.trans hb⟩
theorem LnS.yield (h1:¬ P Bs 9) (h2:¬ P L 95) (h3:¬ P (L+1) 3) (h4:¬ P (L+1+1) 9) (h:LnS s J W0 l L Bs n₀ X0 out fr X) (hk:KeepsFrom L X Y) (hx:KpX P n₀ X Y) (hJ':J out' Y):LnS s J W0 l L Bs n₀ X0 out' fr Y:=by
 obtain⟨a1,a2,a3,a4,a5,a6,a7,a8,a9⟩:=h
 exact⟨hJ',hx.box h2 a2,hx.box h3 a3,hx.box h1 a4,hx.box h4 a5,a6.trans hx.1,Nat.le_trans a7 hk.size,a8.trans ⟨hk.size,fun k o hB=>hk.same k o (by omega)⟩,a9.trans hx.1⟩
theorem LnS.left (h:LnS s J W0 l L Bs n₀ X0 out fr X) (hk:KeepsFrom L X Y):KeepsFrom (L+3) X0 Y:=by
 obtain⟨a1,a2,a3,a4,a5,a6,a7,a8,a9⟩:=h
 exact a8.trans ⟨hk.size,fun k o hB=>hk.same k o (by omega)⟩
theorem LnS.kp (h0:Boxed X0 (L+1+1) 9 (.string s)) (h:LnS s J W0 l L Bs n₀ X0 out fr X):KpB (L+1+1) n₀ X0 X:=by
 obtain⟨a1,a2,a3,a4,a5,a6,a7,a8,a9⟩:=h
 refine⟨a9,fun v hv=>?_⟩
 rw [h0.cell] at hv
 cases hv
 exact a5.cell
theorem LnS.lnI {pre:List (PieceOf s)} (h:LnS s J W0 l L Bs n₀ X0 out fr X) (h1:∀R,lnF s (pre.map (·.1)++R) 0=out.map (·.1)++lnF s R fr) (h2:fr≤endP 0 (pre.map (·.1))):LnI s J W0 l L Bs n₀ pre X:=by
 obtain⟨a1,a2,a3,a4,a5,a6,a7,a8,a9⟩:=h
 exact⟨out,fr,h1,h2,a1,a2,a3,a4,a5,a6,a7⟩
end
theorem outLn_cut (s:ByteArray) (fr a e:Nat) (c:ByteArray) (he:a+c.size=e) (h:fr+65536<e) (R:List (Nat × ByteArray)):outLn s fr (a,c)++lnF s R (frLn fr (a,c))=[(fr,s.extract fr a)]++((if bkindI c=2 then [(a,s.extract a e)] else [])++lnF s R (if bkindI c=2 then e else a)):=by
 subst he
 unfold outLn frLn frN
 dsimp only
 rw [if_pos h,if_pos h,List.append_assoc]
theorem outLn_no (s:ByteArray) (fr a e:Nat) (c:ByteArray) (he:a+c.size=e) (h:¬ fr+65536<e) (R:List (Nat × ByteArray)):outLn s fr (a,c)++lnF s R (frLn fr (a,c))=((if bkindI c=2 then [(fr,s.extract fr e)] else [])++lnF s R (if bkindI c=2 then e else fr)):=by
 subst he
 unfold outLn frLn frN
 dsimp only
 rw [if_neg h,if_neg h,List.nil_append]
set_option maxRecDepth 100000 in
set_option maxHeartbeats 2000000 in
theorem lines_stopsC (Bs n₀:Nat) (P:Nat→Nat→Prop) (s:ByteArray) (hs:s.size≤2097152) (h3:Tryz.lays197_ren.g 3<n₀) (h4:Tryz.lays197_ren.g 4<n₀) (w:World) (hle:n₀≤w.heap.size) (hBs:Boxed w Bs 9 (.string s)) (hT:T8 w)
 (hP1:¬ P Bs 9) (hP2:∀b t,w.heap.size≤b→(t=95∨t=3∨t=9)→¬ P b t) :
 SeqStopsC 2 Tryz.prog 46 #[.pointer (some ⟨Bs,0,none⟩)] (fun x:PieceOf s=>encP x.1) (KpX P n₀) (fun xs=>xs.map (·.1)=linesI s) (fun pre=>pre.map (·.1) <+: linesI s) w:=fun n l J Jx W hW hJ hJx hY h0=>by
 have HJ:=lh hJ
 have HJx:=lh hJx
 have HY:=lh hY
 have hT0:T8 W:=hT.keep h3 h4 (hW.mono hle)
 have HTK:=lh (fun (w':World) (hb:Below n₀ W w')=>hT0.keep h3 h4 hb)
 have hBW:Boxed W Bs 9 (.string s):=(hW.block Bs (Array.getElem?_eq_some_iff.1 hBs).1).trans hBs
 have hBl:Bs<w.heap.size:=(Array.getElem?_eq_some_iff.1 hBs).1
 have hwW:=hW.size
 have HP2:=lh hP2
 clear hJ hJx hY hT hT0 hW hBs hP2
 refine callsIn_wide.2 ((callsIn_wide (n:=4)).1 ?_)
 refine callsIn_of_wp_marks Tryz.func46 rfl trivial ?_ rfl
 simp only [Tryz.ntmps46,List.size_toArray,List.length_cons,List.length_nil,Nat.reduceAdd,Nat.reduceSub,Array.replicate_succ,Array.replicate_zero,List.push_toArray,List.append_toArray,List.nil_append,List.cons_append]
 gi_upto_region 2 with (fail)
 obtain⟨m1,m2,m3⟩:=two_alloc W (.cells #[.func (.yield l) #[] #[]] 95 (0,0)) (.cells #[.int .i64 0] 3 (0,0))
 have hz2:((W.alloc (.cells #[.func (.yield l) #[] #[]] 95)).alloc (.cells #[.int .i64 0] 3)).heap.size=W.heap.size+2:=by rw [World.size_alloc,World.size_alloc]
 generalize (W.alloc (.cells #[.func (.yield l) #[] #[]] 95)).alloc (.cells #[.int .i64 0] 3)=W2 at m1 m2 m3 hz2 ⊢
 obtain⟨L,hL⟩:∃L,W.heap.size=L:=⟨_,rfl⟩
 have HP1:=lh hP1
 have hLs:=hL
 have HJL:=lh (show StaysAt L 2 L J by rw [←hL];exact HJ.out)
 rw [hL] at m1 m2 m3 hz2 ⊢
 have hb2:=(m3.block Bs (by omega)).trans hBW
 have hcs:W2.cell? ⟨Bs,0,none⟩=some (.string s):=Boxed.cell hb2
 gi_wp2_with (fail)
 refine⟨trivial,?_⟩
 refine (callsIn_wide.2 (All_any s _)).mono ?_
 rintro e' W3 ⟨rfl,hW3⟩
 have hb23:Below W2.heap.size W2 W3:=by rw [hW3];exact (Below.refl _ _).alloc (Nat.le_refl _) _
 have hx3:Boxed W3 (L+1+1) 9 (.string s):=by
  have h:=World.alloc_heap_new W2 (.cells #[.string s] 9)
  rw [hz2,←hW3] at h
  exact h
 have hz3:W3.heap.size=L+3:=by rw [hW3,World.size_alloc,hz2]
 rw [hz2]
 clear hW3 hcs
 have k1:Boxed W3 L 95 (.func (.yield l) #[] #[]):=(hb23.block L (by omega)).trans m1
 have k2:Boxed W3 (L+1) 3 (.int .i64 0):=(hb23.block (L+1) (by omega)).trans m2
 have k3:Boxed W3 Bs 9 (.string s):=(hb23.block Bs (by omega)).trans hb2
 have hbW3:Below L W W3:=m3.trans (hb23.mono (by omega))
 have hbn:Below n₀ W W3:=hbW3.mono (by omega)
 have hJ3:J [] W3:=HJ.out.grow h0 (hL▸hbW3)
 have hT3:=HTK.out W3 hbn
 clear m1 m2 m3 hb2 hb23 hBW hz2
 unfold itV
 gi_wp2_with (fail)
 refine wpIn_rangeFunc_ownC (by omega) (gf:=54) (lb:=#[.pointer (some ⟨L+1+1,0,none⟩)]) rfl trivial (enters_of Tryz.func54 (by kernel_rfl) rfl)
  (pieces_stopsC (L+1+1) n₀ s (by omega) h3 h4 W3 (by omega) hx3.cell hT3) (fun h k=>KpB.trans h k) (kpB_put (w:=W3) (by omega)) (Below.refl _ _) (fun _=>rfl)
  (LnI s J W l L Bs n₀) (fun c _ W'=>c=.ret∧∃out:List (PieceOf s),out.map (·.1) <+: linesI s∧Jx out W') ?hI ?hIx ?h0
  (fun x=>{ tmps:=#[.func (.yield l) #[] #[],.pointer (some ⟨Bs,0,none⟩),.pointer (some ⟨L,0,none⟩),.pointer (some ⟨L+1,0,none⟩),.int .i64 x.1.1,.string x.1.2,undef,.string s,.func (.func 54) #[] #[.pointer (some ⟨L+1+1,0,none⟩)],.int .i64 x.1.1,.string x.1.2,undef,undef,undef,undef,undef,undef,undef,undef,undef,undef,undef,undef,undef,undef,undef,undef,undef,undef,undef,undef,undef,undef,undef,undef,undef,undef,undef,undef,undef,undef,undef,undef,undef,undef,undef],defers:=[] }) ?assign ?body ?done ?stop
 case hI =>
  rintro pre X Y row ⟨out,fr,r1,r2,r3,r4,r5,r6,r7,r8,r9⟩ hg hrow
  have hr:∀k,row=some k→∃o,X.heap[k]? = some o∧o.isCells=false:=fun k e=>by
   rcases hrow k e with h | ⟨_,h⟩
   ·omega
   ·exact h
  exact⟨out,fr,r1,r2,HJ.out out X Y row r3 hg (fun r e=>by rcases hrow r e with h | ⟨h,h2⟩;exact absurd h (by omega);exact .inr ⟨by omega,h2⟩),box_kept r4 hg hr,box_kept r5 hg hr,box_kept r6 hg hr,box_kept r7 hg hr,
   r8.grown hg (by have:=r8.size;omega) (fun k e=>by rcases hrow k e with h | ⟨h,_⟩ <;> omega),Nat.le_trans r9 hg.size⟩
 case hIx =>
  rintro c pre X Y row ⟨h0,out,r1,r2⟩ hg hrow
  exact⟨h0,out,r1,HJx.out out X Y row r2 hg (fun r e=>by rcases hrow r e with h | ⟨h,h2⟩;exact absurd h (by omega);exact .inr ⟨by omega,h2⟩)⟩
 case h0=>exact⟨[],0,fun R=>rfl,Nat.le_refl _,hJ3,k1,k2,k3,hx3,hbn,by omega⟩
 case assign =>
  intro l' x W' K hK
  gi_wp2_with (fail)
  exact hK
 case body =>
  rintro l' pre x X ⟨out,fr,r1,r2,r3,r4,r5,r6,r7,r8,r9⟩ hlt hge
  obtain⟨at',hat⟩:∃a,x.1.1=a:=⟨_,rfl⟩
  obtain⟨c,hcc⟩:∃c,x.1.2=c:=⟨_,rfl⟩
  have hx1:x.1=(at',c):=by rw [←hat,←hcc]
  have hlt2:=hlt
  rw [List.map_append,List.map_singleton,hx1] at hlt2
  obtain⟨q1,q2⟩:=chain_at s s.size 0 (Nat.zero_le _) (pre.map (·.1)) (at',c) hlt2
  rw [←q1] at r2
  obtain⟨e,he⟩:∃e,at'+c.size=e:=⟨_,rfl⟩
  have q2':e≤s.size:=by rw [←he];exact q2
  have q3:fr≤at':=r2
  have q4:at'≤e:=by omega
  have HBK:=lh (fun (w':World) (hT':T8 w')=>bkind_any c w' hT')
  simp only [hat,hcc]
  obtain⟨T,hT'⟩:=hlt
  have hTT:linesI s=lnF s ((pre++[x]).map (·.1)++T) 0:=by rw [hT'];rfl
  have HT:=lh hTT
  clear hTT
  have hsn:∀R,lnF s ((pre++[x]).map (·.1)++R) 0=out.map (·.1)++(outLn s fr (at',c)++lnF s R (frLn fr (at',c))):=fun R=>by
   rw [List.map_append,List.map_singleton,hx1,List.append_assoc,List.singleton_append,r1,lnF]
  have HSN:=lh hsn
  have R7:=lh r7
  have S0:=lh (show LnS s J W l L Bs n₀ X out fr X from ⟨r3,r4,r5,r6,r7,r8,r9,KeepsFrom.refl _ _,Below.refl _ _⟩)
  have HE:=lh he
  have HX1:=lh hx1
  have c1:=r4.cell
  have c2:=r5.cell
  have c3:=r6.cell
  have hnL:n₀≤L:=by omega
  have hBsL:Bs<L:=by omega
  have hw1:IntKind.i64.wrap ((at':Int)+(c.size:Int))=(e:Int):=by rw [IntKind.wrap_i64];omega
  have hw2:IntKind.i64.wrap ((e:Int)-(fr:Int))=(e:Int)-(fr:Int):=by rw [IntKind.wrap_i64];omega
  have g0:(0:Int)≤(fr:Int):=by omega
  have g1:(fr:Int)≤(at':Int):=by omega
  have g2:(at':Int)≤(s.size:Int):=by omega
  have g3:(at':Int)≤(e:Int):=by omega
  have g4:(e:Int)≤(s.size:Int):=by omega
  have g5:(fr:Int)≤(e:Int):=by omega
  have g6:(0:Int)≤(at':Int):=by omega
  clear r1 r2 r3 r4 r5 r6 r7 r8 r9 hat hcc he hx1 hlt2 hsn q1 q2 hT'
  by_cases hcut:fr+65536<e
  ·have hd:decide ((65536:Int)<(e:Int)-(fr:Int))=true:=decide_eq_true (by omega)
   have hn0:∀R,lnF s ((pre++[x]).map (·.1)++R) 0=out.map (·.1)++([(fr,s.extract fr at')]++((if bkindI c=2 then [(at',s.extract at' e)] else [])++lnF s R (if bkindI c=2 then e else at'))):=fun R=>by
    rw [HSN.out,outLn_cut s fr at' e c HE.out hcut]
   have HN0:=lh hn0
   clear hn0
   gi_upto_region 7 with (fail)
   refine wpIn_region_headsY 6 (by kernel_rfl) (by kernel_rfl) ?_
   simp only [List.take_succ_cons,List.take_zero,List.drop_succ_cons,List.drop_zero]
   repeat (go_big_quiet_step (fail))
   refine wpQuiet_nil ?_
   intro _ hw'
   obtain⟨nq,hw''⟩:=hw'
   subst hw''
   have hs1:=S0.out.below HJL.out hnL (bl_drewN (Below.refl _ _) nq)
   have S1:=lh hs1
   clear c1 c2 c3
   obtain⟨pc,hpcv⟩:∃pc:PieceOf s,pc.1=(fr,s.extract fr at'):=⟨⟨(fr,s.extract fr at'),by show fr+(s.extract fr at').size≤s.size;simp [ByteArray.size_extract];omega⟩,rfl⟩
   have HPC:=lh hpcv
   have hpr:(out++[pc]).map (·.1) <+: linesI s:=by
    rw [HT.out,HN0.out,List.map_append,List.map_singleton,HPC.out,←List.append_assoc]
    exact List.prefix_append _ _
   obtain⟨fn,tmps,assign,body,hy,hR⟩:=HY.out out pc (X.drewN nq) S1.out.1 hpr (by have:=S1.out.2.2.2.2.2.2.1;omega)
   rw [hpcv] at hy
   dsimp only [encP] at hy
   have HR:=lh hR
   have HPR:=lh hpr
   clear hR hpcv hpr hs1
   gi_wp2_with (fail)
   refine (roundAny HR.out _).mono ?_
   rintro e' X2 ⟨hkf,(⟨rfl,hJ2,hk2⟩ | ⟨rfl,hJx2⟩)⟩
   ·rw [hLs] at hkf
    have hs2:=S1.out.yield HP1.out (HP2.out _ _ (by omega) (.inl rfl)) (HP2.out _ _ (by omega) (.inr (.inl rfl))) (HP2.out _ _ (by omega) (.inr (.inr rfl))) hkf hk2 hJ2
    have S2:=lh hs2
    have S3:=lh (hs2.store HJL.out hnL hBsL at')
    have d2:=hs2.2.2.1.cell
    have d4:=hs2.2.2.1.frozen
    clear hs2 hy HR hkf hk2 hJ2
    have hn1:∀R,lnF s ((pre++[x]).map (·.1)++R) 0=(out++[pc]).map (·.1)++((if bkindI c=2 then [(at',s.extract at' e)] else [])++lnF s R (if bkindI c=2 then e else at')):=fun R=>by
     rw [HN0.out,List.map_append,List.map_singleton,HPC.out,List.append_assoc]
    gi_upto_region 9 with (fail)
    gi_wp2_with (fail)
    refine⟨trivial,?_⟩
    refine (callsIn_wide.2 (HBK.out _ (HTK.out _ S3.out.2.2.2.2.2.1))).mono ?_
    rintro e' X5 ⟨rfl,hb5⟩
    have hs5:=S3.out.below HJL.out hnL hb5
    have S5:=lh hs5
    have d1:=hs5.2.1.cell
    have d2:=hs5.2.2.1.cell
    have d3:=hs5.2.2.2.1.cell
    have d4:=hs5.2.2.1.frozen
    clear hb5 hs5
    have HN:=lh hn1
    clear hn1
    obtain⟨kd,hkd⟩:∃k,bkindI c=k:=⟨_,rfl⟩
    rw [hkd]
    by_cases hk2:kd=2
    ·have hk2d:decide (kd=2)=true:=decide_eq_true hk2
     have hn2:=HN.out
     simp only [hkd,if_pos hk2] at hn2
     have HN2:=lh hn2
     clear hn2
     gi_upto_region 10 with (fail)
     refine wpIn_region_headsY 6 (by kernel_rfl) (by kernel_rfl) ?_
     simp only [List.take_succ_cons,List.take_zero,List.drop_succ_cons,List.drop_zero]
     repeat (go_big_quiet_step (fail))
     refine wpQuiet_nil ?_
     intro _ hw'
     obtain⟨nq2,hw''⟩:=hw'
     subst hw''
     have hs6:=S5.out.below HJL.out hnL (bl_drewN (Below.refl _ _) nq2)
     have S6:=lh hs6
     clear d1 d2 d3 d4
     obtain⟨pc2,hpc2⟩:∃pc:PieceOf s,pc.1=(at',s.extract at' e):=⟨⟨(at',s.extract at' e),by show at'+(s.extract at' e).size≤s.size;simp [ByteArray.size_extract];omega⟩,rfl⟩
     have HP2':=lh hpc2
     have hpr2:((out++[pc])++[pc2]).map (·.1) <+: linesI s:=by
      rw [HT.out,HN2.out,List.map_append,List.map_singleton,HP2'.out]
      exact⟨lnF s T e,by simp⟩
     obtain⟨fn2,tmps2,assign2,body2,hy2,hR2⟩:=HY.out (out++[pc]) pc2 (X5.drewN nq2) S6.out.1 hpr2 (by have:=S6.out.2.2.2.2.2.2.1;omega)
     rw [hpc2] at hy2
     dsimp only [encP] at hy2
     have HR2:=lh hR2
     have HPR2:=lh hpr2
     clear hR2 hpc2 hpr2 hs6
     gi_wp2_with (fail)
     refine (roundAny HR2.out _).mono ?_
     rintro e' X7 ⟨hkf2,(⟨rfl,hJ7,hk7⟩ | ⟨rfl,hJx7⟩)⟩
     ·rw [hLs] at hkf2
      have hs7:=S6.out.yield HP1.out (HP2.out _ _ (by omega) (.inl rfl)) (HP2.out _ _ (by omega) (.inr (.inl rfl))) (HP2.out _ _ (by omega) (.inr (.inr rfl))) hkf2 hk7 hJ7
      have S7:=lh hs7
      have d2:=hs7.2.2.1.cell
      have d4:=hs7.2.2.1.frozen
      clear hs7 hy2 HR2 hkf2 hk7 hJ7
      gi_wp2_with (fail)
      have hs8:=S7.out.store HJL.out hnL (by omega) e
      rw [hz3]
      refine⟨hs8.2.2.2.2.2.2.2.1,hs8.kp R7.out,hs8.lnI (fun R=>?_) ?_⟩
      ·rw [HN2.out];simp only [List.map_append,List.map_singleton,HP2'.out,List.append_assoc]
      ·rw [List.map_append,List.map_singleton,endP_snoc,HX1.out];exact Nat.le_of_eq HE.out.symm
     ·rw [hLs] at hkf2
      clear hy2 HR2
      gi_wp2_with (fail)
      rw [hz3]
      exact⟨S6.out.left hkf2,rfl,_,HPR2.out,hJx7⟩
    ·have hk2d:decide (kd=2)=false:=decide_eq_false hk2
     have hn2:=HN.out
     simp only [hkd,if_neg hk2,List.nil_append] at hn2
     have HN2:=lh hn2
     clear hn2
     gi_wp2_with (fail)
     rw [hz3]
     refine⟨S5.out.2.2.2.2.2.2.2.1,S5.out.kp R7.out,S5.out.lnI (fun R=>?_) ?_⟩
     ·rw [HN2.out]
     ·rw [List.map_append,List.map_singleton,endP_snoc,HX1.out]
      have h1:=HE.out
      have h2:=q4
      show _≤at'+c.size
      omega
   ·rw [hLs] at hkf
    clear hy HR
    gi_wp2_with (fail)
    rw [hz3]
    exact⟨S1.out.left hkf,rfl,_,HPR.out,hJx2⟩
  ·have hd:decide ((65536:Int)<(e:Int)-(fr:Int))=false:=decide_eq_false (by omega)
   have hn1:∀R,lnF s ((pre++[x]).map (·.1)++R) 0=out.map (·.1)++((if bkindI c=2 then [(fr,s.extract fr e)] else [])++lnF s R (if bkindI c=2 then e else fr)):=fun R=>by
    rw [HSN.out,outLn_no s fr at' e c HE.out hcut]
   gi_upto_region 9 with (fail)
   gi_wp2_with (fail)
   refine⟨trivial,?_⟩
   refine (callsIn_wide.2 (HBK.out _ (HTK.out _ S0.out.2.2.2.2.2.1))).mono ?_
   rintro e' X5 ⟨rfl,hb5⟩
   have hs5:=S0.out.below HJL.out hnL hb5
   have S5:=lh hs5
   have d1:=hs5.2.1.cell
   have d2:=hs5.2.2.1.cell
   have d3:=hs5.2.2.2.1.cell
   have d4:=hs5.2.2.1.frozen
   clear hb5 hs5
   have HN:=lh hn1
   clear hn1
   obtain⟨kd,hkd⟩:∃k,bkindI c=k:=⟨_,rfl⟩
   rw [hkd]
   by_cases hk2:kd=2
   ·have hk2d:decide (kd=2)=true:=decide_eq_true hk2
    have hn2:=HN.out
    simp only [hkd,if_pos hk2] at hn2
    have HN2:=lh hn2
    clear hn2
    gi_upto_region 10 with (fail)
    refine wpIn_region_headsY 6 (by kernel_rfl) (by kernel_rfl) ?_
    simp only [List.take_succ_cons,List.take_zero,List.drop_succ_cons,List.drop_zero]
    repeat (go_big_quiet_step (fail))
    refine wpQuiet_nil ?_
    intro _ hw'
    obtain⟨nq2,hw''⟩:=hw'
    subst hw''
    have hs6:=S5.out.below HJL.out hnL (bl_drewN (Below.refl _ _) nq2)
    have S6:=lh hs6
    clear d1 d2 d3 d4
    obtain⟨pc2,hpc2⟩:∃pc:PieceOf s,pc.1=(fr,s.extract fr e):=⟨⟨(fr,s.extract fr e),by show fr+(s.extract fr e).size≤s.size;simp [ByteArray.size_extract];omega⟩,rfl⟩
    have HP2':=lh hpc2
    have hpr2:((out)++[pc2]).map (·.1) <+: linesI s:=by
     rw [HT.out,HN2.out,List.map_append,List.map_singleton,HP2'.out]
     exact⟨lnF s T e,by simp⟩
    obtain⟨fn2,tmps2,assign2,body2,hy2,hR2⟩:=HY.out (out) pc2 (X5.drewN nq2) S6.out.1 hpr2 (by have:=S6.out.2.2.2.2.2.2.1;omega)
    rw [hpc2] at hy2
    dsimp only [encP] at hy2
    have HR2:=lh hR2
    have HPR2:=lh hpr2
    clear hR2 hpc2 hpr2 hs6
    gi_wp2_with (fail)
    refine (roundAny HR2.out _).mono ?_
    rintro e' X7 ⟨hkf2,(⟨rfl,hJ7,hk7⟩ | ⟨rfl,hJx7⟩)⟩
    ·rw [hLs] at hkf2
     have hs7:=S6.out.yield HP1.out (HP2.out _ _ (by omega) (.inl rfl)) (HP2.out _ _ (by omega) (.inr (.inl rfl))) (HP2.out _ _ (by omega) (.inr (.inr rfl))) hkf2 hk7 hJ7
     have S7:=lh hs7
     have d2:=hs7.2.2.1.cell
     have d4:=hs7.2.2.1.frozen
     clear hs7 hy2 HR2 hkf2 hk7 hJ7
     gi_wp2_with (fail)
     have hs8:=S7.out.store HJL.out hnL (by omega) e
     rw [hz3]
     refine⟨hs8.2.2.2.2.2.2.2.1,hs8.kp R7.out,hs8.lnI (fun R=>?_) ?_⟩
     ·rw [HN2.out];simp only [List.map_append,List.map_singleton,HP2'.out,List.append_assoc]
     ·rw [List.map_append,List.map_singleton,endP_snoc,HX1.out];exact Nat.le_of_eq HE.out.symm
    ·rw [hLs] at hkf2
     clear hy2 HR2
     gi_wp2_with (fail)
     rw [hz3]
     exact⟨S6.out.left hkf2,rfl,_,HPR2.out,hJx7⟩
   ·have hk2d:decide (kd=2)=false:=decide_eq_false hk2
    have hn2:=HN.out
    simp only [hkd,if_neg hk2,List.nil_append] at hn2
    have HN2:=lh hn2
    clear hn2
    gi_wp2_with (fail)
    rw [hz3]
    refine⟨S5.out.2.2.2.2.2.2.2.1,S5.out.kp R7.out,S5.out.lnI (fun R=>?_) ?_⟩
    ·rw [HN2.out]
    ·rw [List.map_append,List.map_singleton,endP_snoc,HX1.out]
     have h1:=HE.out
     have h2:=q4
     show _≤at'+c.size
     omega
 case done =>
  rintro D xs X hD hxs ⟨out,fr,r1,r2,r3,r4,r5,r6,r7,r8,r9⟩ hK
  rw [hz3] at hD
  have hfz:fr≤s.size:=by
   refine Nat.le_trans r2 ?_
   rcases List.eq_nil_or_concat (xs.map (·.1)) with h | ⟨t,q,h⟩
   ·rw [h];exact Nat.zero_le _
   ·rw [List.concat_eq_append] at h
    rw [h,endP_snoc]
    exact (chain_at s s.size 0 (Nat.zero_le _) t q (by rw [←h,hxs];exact List.prefix_refl _)).2
  obtain⟨pc,hpcv⟩:∃pc:PieceOf s,pc.1=(fr,s.extract fr s.size):=⟨⟨(fr,s.extract fr s.size),by show fr+(s.extract fr s.size).size≤s.size;simp [ByteArray.size_extract];omega⟩,rfl⟩
  have hall:(out++[pc]).map (·.1)=linesI s:=by
   have h1:=r1 []
   rw [List.append_nil,hxs] at h1
   rw [List.map_append,List.map_singleton,hpcv]
   exact h1.symm
  have c1:=r4.cell
  have c2:=r5.cell
  have c3:=r6.cell
  have R3:=lh r3
  have HALL:=lh hall
  have HK:=lh hK
  have g0:(0:Int)≤(fr:Int):=by omega
  have g1:(fr:Int)≤(s.size:Int):=by omega
  clear r1 r2 r3 r4 r5 r6 r7 r8 hxs hK hall
  gi_upto_region 12 with (fail)
  refine wpIn_region_headsW 5 (by kernel_rfl) (by kernel_rfl) ?_
  simp only [List.take_succ_cons,List.take_zero,List.drop_succ_cons,List.drop_zero]
  repeat (go_big_quiet_step (fail))
  refine wpQuiet_nil ?_
  intro _ hw'
  obtain⟨nq,hw''⟩:=hw'
  subst hw''
  clear c1 c2 c3
  obtain⟨fn,tmps,assign,body,hy,hR⟩:=HY.out out pc (X.drewN nq) (HJL.out.grow R3.out (bl_drewN (Below.refl _ _) nq)) (by rw [HALL.out];exact List.prefix_refl _) (by show W.heap.size+2≤X.heap.size;omega)
  rw [hpcv] at hy
  dsimp only [encP] at hy
  have HR:=lh hR
  clear hR hpcv
  gi_wp2_with (fail)
  refine (roundAny HR.out _).mono ?_
  rintro e' X2 ⟨hkf,(⟨rfl,hJ2,hk2⟩ | ⟨rfl,hJx2⟩)⟩
  ·have hK2:X2.heap[D]? = some (.deferred (some [])):=hkf.same D _ (by omega) HK.out rfl
   clear hy HR
   gi_wp2_with (fail)
   refine⟨by simp,.inl ⟨_,_,rfl,run_takeDeferred hK2,?_⟩⟩
   refine⟨_,results_none rfl _ _ _,⟨_,rfl⟩,.inl ⟨out++[pc],HALL.out,HJL.out.put _ hJ2 hK2 rfl (by omega)⟩⟩
  ·have hK2:X2.heap[D]? = some (.deferred (some [])):=hkf.same D _ (by omega) HK.out rfl
   clear hy HR
   gi_wp2_with (fail)
   refine⟨by simp,.inl ⟨_,_,rfl,run_takeDeferred hK2,?_⟩⟩
   refine⟨_,results_none rfl _ _ _,⟨_,rfl⟩,.inr ⟨out++[pc],by rw [HALL.out];exact List.prefix_refl _,HJx.out.put _ hJx2 hK2 rfl (by omega)⟩⟩
 case stop =>
  rintro D c pre X hD _ ⟨rfl,out,p1,p2⟩ hK
  rw [hz3] at hD
  gi_wp2_with (fail)
  refine⟨by simp,.inl ⟨_,_,rfl,run_takeDeferred hK,?_⟩⟩
  refine⟨_,results_none rfl _ _ _,⟨_,rfl⟩,.inr ⟨out,p1,HJx.out.put _ p2 hK rfl (by omega)⟩⟩
end
section
def loI (f t n:Int):Int:=min (max 0 (min f n)) (max 0 (min t n))
def hiI (f t n:Int):Int:=max (max 0 (min f n)) (max 0 (min t n))
theorem lohi (f t n:Int) (hn:0≤n):0≤loI f t n∧loI f t n≤hiI f t n∧hiI f t n≤n:=by unfold loI hiI;omega
def spF (a b:Int):List Ce→Int→Bool→List (Int × Int)→List (Int × Int)
 | [],_,_,out=>out
 | c::t,x,op,out =>
   if decide (a≤(c.a:Int))&&decide ((c.a:Int)<b) then
    spF a b t (x+1) true (if op=true then out.set (out.length-1) ((out.getD (out.length-1) (0,0)).1,(out.getD (out.length-1) (0,0)).2+1) else out++[(x,1)])
   else spF a b t (x+1) false out
def spansI (cs:List Ce) (a b:Int):List (Int × Int):=spF a b cs 0 false []
end
end Go.Proofs.YtlbclfmbejjneaaGreatDoor
