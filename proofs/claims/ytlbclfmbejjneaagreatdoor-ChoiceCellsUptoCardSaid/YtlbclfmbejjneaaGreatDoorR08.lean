/- Part 8 (merged by a program): lemmas of no further condition than each states. -/
import Derived.Sort.CutIn
import Derived.Laws.EntriesVeiled
import Derived.Test.YtlbclfmbejjneaaGreatDoorR07
namespace Go.Proofs.YtlbclfmbejjneaaGreatDoor
set_option linter.unusedVariables false
set_option linter.unusedSimpArgs false
section
open Go.RowKit Go.Proofs Go.Shelf
attribute [local go_sem] Oper.semAt_some
def whereK:List Int→List Int
 | []=>[]
 | k::t=>whereF t k (if k=1 then -1 else k)
theorem whereI_K (s:ByteArray):whereI s=whereK ((piecesI s).map (fun p=>bkindI p.2)):=by
 unfold whereI whereK
 split <;> simp_all
theorem whereF_len:∀(l:List Int) (a so:Int),(whereF l a so).length=l.length+1
 | [],_,_=>rfl
 | b::t,a,so=>by rw [whereF,List.length_cons,whereF_len t,List.length_cons]
def Whr (L:List Int) (a so:Int) (fst:Bool) (out:List Int):Prop :=
 (L=[]∧fst=true∧so = -1∧a=0∧out=[])∨(L≠[]∧fst=false∧∀R,whereK (L++R)=out++whereF R a so)
theorem whr_len {L:List Int} {a so:Int} {fst:Bool} {out:List Int} (h:Whr L a so fst out):out.length=L.length-1:=by
 rcases h with ⟨rfl,_,_,_,rfl⟩ | ⟨hne,_,h⟩
 ·rfl
 ·have:=h []
  rw [List.append_nil] at this
  have h2:=congrArg List.length this
  rw [List.length_append,whereF_len] at h2
  cases L with
  | nil=>exact absurd rfl hne
  | cons k t=>rw [whereK,whereF_len] at h2;simp at h2 ⊢;omega
theorem whr_first {so a:Int} {L out:List Int} (h:Whr L a so true out) (b:Int):Whr (L++[b]) b (if b=1 then so else b) false out:=by
 rcases h with ⟨rfl,_,rfl,rfl,rfl⟩ | ⟨_,h,_⟩
 ·exact .inr ⟨by simp,rfl,fun R=>rfl⟩
 ·cases h
theorem whr_next {so a:Int} {L out:List Int} (h:Whr L a so false out) (b:Int):Whr (L++[b]) b (if b=1 then so else b) false (out++[ruleI a b so]):=by
 rcases h with ⟨_,h,_⟩ | ⟨hne,_,h⟩
 ·cases h
 ·exact .inr ⟨by simp,rfl,fun R=>by rw [List.append_assoc,h,List.singleton_append,whereF,List.append_assoc,List.singleton_append]⟩
theorem whr_done {so a:Int} {L out:List Int} (h:Whr L a so false out):whereK L=out++[if a=2 then 2 else 0]:=by
 rcases h with ⟨_,h,_⟩ | ⟨hne,_,h⟩
 ·cases h
 ·have:=h []
  rwa [List.append_nil] at this
theorem whr_nil {so a:Int} {L out:List Int} (h:Whr L a so true out):whereK L=[]:=by
 rcases h with ⟨rfl,_⟩ | ⟨_,h,_⟩
 ·rfl
 ·cases h
theorem rul_get (i:Nat) (hi:i<12):rulCells[i*2]? = some (.func (.func (rulF i)) #[] #[])∧rulCells[i*2+1]? = some (.int .i8 (rulV i)):=by
 have:i=0∨i=1∨i=2∨i=3∨i=4∨i=5∨i=6∨i=7∨i=8∨i=9∨i=10∨i=11:=by omega
 rcases this with rfl | rfl | rfl | rfl | rfl | rfl | rfl | rfl | rfl | rfl | rfl | rfl <;> exact⟨rfl,rfl⟩
def WhB (s:ByteArray) (n:Nat) (W:World) (a b so:Int) (fst:Bool) (v:Value) (out:List Int):Prop :=
 W.heap[n]? = some (.cells rulCells.toArray 212 (0,0))∧Boxed W (n+1) 206 (.slice (some ⟨n,0,none⟩) 12 12)∧Boxed W (n+2) 142 v∧W.ownsRow n 22 1 v out.length (out.map (Value.int .i8)) ∧
 W.heap[n+3]? = some (.cells #[.int .i8 a,.int .i8 b,.int .i8 so] 209 (0,0))∧Boxed W (n+4) 4 (.bool fst)∧Boxed W (n+5) 9 (.string s)
def WhrI (s:ByteArray) (w:World) (pre:List (PieceOf s)) (W:World):Prop :=
 ∃a b so fst v out,Whr (pre.map (fun p=>bkindI p.1.2)) a so fst out∧WhB s w.heap.size W a b so fst v out∧Below w.heap.size w W
theorem whB_kept {s:ByteArray} {n:Nat} {A B:World} {a b so:Int} {fst:Bool} {v:Value} {out:List Int} (h:WhB s n A a b so fst v out) {row:Option Nat} (hg:A.grownBy B row) (hrow:∀k,row=some k→∃o,A.heap[k]? = some o∧o.isCells=false):WhB s n B a b so fst v out:=by
 obtain⟨h1,h2,h3,h4,h5,h6,h7⟩:=h
 have ne:∀{k:Nat} {c t f},A.heap[k]? = some (.cells c t f)→some k≠row:=fun hb e=>by
  obtain⟨o,ho,hc⟩:=hrow _ e.symm
  rw [hb] at ho;cases ho;cases hc
 have lt:∀{k:Nat} {o:Obj},A.heap[k]? = some o→k<A.heap.size:=fun hb=>(Array.getElem?_eq_some_iff.1 hb).1
 refine⟨(hg.block _ (lt h1) (ne h1)).trans h1,h2.kept hg (ne h2),h3.kept hg (ne h3),h4.kept hg ?_,(hg.block _ (lt h5) (ne h5)).trans h5,h6.kept hg (ne h6),h7.kept hg (ne h7)⟩
 rcases h4.2 with ⟨rfl,_⟩ | ⟨g,cap,cur,rfl,_,hgb,_⟩
 ·exact .inl rfl
 ·refine .inr fun e'=>?_
  exact ne hgb (by simpa [Value.ownBlock] using e')
def whW (s:ByteArray) (w:World) (n:Nat):World :=
 (((((w.alloc (.cells rulCells.toArray 212)).alloc (.cells #[.slice (some ⟨n,0,none⟩) 12 12] 206)).alloc (.cells #[.slice none 0 0] 142)).alloc (.cells #[.int .i8 0,.int .i8 0,.int .i8 (-1)] 209)).alloc (.cells #[.bool true] 4)).alloc (.cells #[.string s] 9)
theorem whB_start (s:ByteArray) (w:World) (n:Nat) (hn:w.heap.size=n):WhB s n (whW s w n) 0 0 (-1) true (.slice none 0 0) []∧Below n w (whW s w n)∧(whW s w n).heap.size=n+6:=by
 subst hn
 have old:∀{W:World} {k:Nat} {o:Obj} (o':Obj),W.heap[k]? = some o→(W.alloc o').heap[k]? = some o:=fun {W k o} o' h=>((World.grownBy_alloc W o' none).block k (Array.getElem?_eq_some_iff.1 h).1 (by simp)).trans h
 have new:∀{W:World} {k:Nat} (o:Obj),k=W.heap.size→(W.alloc o).heap[k]? = some o:=fun {W k} o h=>by subst h;exact World.alloc_heap_new W o
 refine⟨⟨?_,?_,?_,World.ownsRow_nil _ _ _ _,?_,?_,?_⟩,?_,?_⟩
 ·exact old _ (old _ (old _ (old _ (old _ (new _ rfl)))))
 ·exact old _ (old _ (old _ (old _ (new _ (by simp only [World.size_alloc])))))
 ·exact old _ (old _ (old _ (new _ (by simp only [World.size_alloc]))))
 ·exact old _ (old _ (new _ (by simp only [World.size_alloc])))
 ·exact old _ (new _ (by simp only [World.size_alloc]))
 ·exact new _ (by simp only [World.size_alloc])
 ·unfold whW
  refine ((((((Below.refl _ w).alloc (by omega) _).alloc ?_ _).alloc ?_ _).alloc ?_ _).alloc ?_ _).alloc ?_ _ <;> simp only [World.size_alloc] <;> omega
 ·simp [whW,World.size_alloc]
theorem whB_below {s:ByteArray} {n:Nat} {A B:World} {a b so:Int} {fst:Bool} {v:Value} {out:List Int} (h:WhB s n A a b so fst v out) (hb:Below A.heap.size A B):WhB s n B a b so fst v out :=
 whB_kept (row:=none) h ⟨hb.os,hb.tape,hb.output,hb.size,fun q hq _=>hb.block q hq⟩ (fun k e=>by cases e)
theorem keeps_below {A B:World} (hb:Below A.heap.size A B):KeepsOthers A B :=
 KeepsOthers.of_grownBy (row:=none) ⟨hb.os,hb.tape,hb.output,hb.size,fun q hq _=>hb.block q hq⟩ (fun _ _ e=>by cases e)
theorem box_other {W:World} {k B i:Nat} {o:Obj} {v:Value} (h:W.heap[k]? = some o) (hne:k≠B):(W.setCell ⟨B,i,none⟩ v).heap[k]? = some o:=by
 rw [Below.heap_setCell _ _ _ _ hne];exact h
theorem row_other {W:World} {base e size m B i:Nat} {v u:Value} {xs:List Value} (h:W.ownsRow base e size v m xs) (hne:∀g,v.ownBlock=some g→g≠B):(W.setCell ⟨B,i,none⟩ u).ownsRow base e size v m xs:=by
 refine h.kept (row:=some B) ⟨rfl,rfl,rfl,(KeepsWalks.setCell W _ u).size,fun k _ hk=>Below.heap_setCell _ _ _ k (fun e=>hk (by rw [e]))⟩ ?_
 cases hv:v.ownBlock with
 | none=>exact .inl rfl
 | some g=>exact .inr (fun e=>hne g hv (by simpa using e))
theorem set_at {W:World} {k i t:Nat} {cs:Array Value} (h:W.heap[k]? = some (.cells cs t (0,0))) (v:Value):(W.setCell ⟨k,i,none⟩ v).heap[k]? = some (.cells (cs.setIfInBounds i v) t (0,0)):=by
 obtain⟨hlt,hk⟩:=Array.getElem?_eq_some_iff.1 h
 show (W.heap.modify k _)[k]? = _
 rw [Array.getElem?_eq_getElem (by rw [Array.size_modify];exact hlt),Array.getElem_modify_self,hk]
 rfl
theorem ne_row {W:World} {base e size m k t:Nat} {v:Value} {xs:List Value} {cs:Array Value} {f:Nat × Nat} (h:W.ownsRow base e size v m xs) (hk:W.heap[k]? = some (.cells cs t f)) (hte:t≠e):∀g,v.ownBlock=some g→g≠k:=by
 rcases h.2 with ⟨rfl,_⟩ | ⟨g',cap,cur,rfl,_,hgb,_⟩
 ·intro g e;simp [Value.ownBlock] at e
 ·intro g e' e2
  obtain rfl:g'=g:=by simpa [Value.ownBlock] using e'
  subst e2
  rw [hgb] at hk
  simp at hk
  exact hte hk.2.1.symm
theorem whB_b {s:ByteArray} {n:Nat} {W:World} {a b so:Int} {fst:Bool} {v:Value} {out:List Int} (h:WhB s n W a b so fst v out) (x:Int):WhB s n (W.setCell ⟨n+3,1,none⟩ (.int .i8 x)) a x so fst v out:=by
 obtain⟨h1,h2,h3,h4,h5,h6,h7⟩:=h
 exact⟨box_other h1 (by omega),box_other h2 (by omega),box_other h3 (by omega),row_other h4 (ne_row h4 h5 (by decide)),set_at (i:=1) h5 _,box_other h6 (by omega),box_other h7 (by omega)⟩
theorem whB_a {s:ByteArray} {n:Nat} {W:World} {a b so:Int} {fst:Bool} {v:Value} {out:List Int} (h:WhB s n W a b so fst v out) (x:Int):WhB s n (W.setCell ⟨n+3,0,none⟩ (.int .i8 x)) x b so fst v out:=by
 obtain⟨h1,h2,h3,h4,h5,h6,h7⟩:=h
 exact⟨box_other h1 (by omega),box_other h2 (by omega),box_other h3 (by omega),row_other h4 (ne_row h4 h5 (by decide)),set_at (i:=0) h5 _,box_other h6 (by omega),box_other h7 (by omega)⟩
theorem whB_so {s:ByteArray} {n:Nat} {W:World} {a b so:Int} {fst:Bool} {v:Value} {out:List Int} (h:WhB s n W a b so fst v out) (x:Int):WhB s n (W.setCell ⟨n+3,2,none⟩ (.int .i8 x)) a b x fst v out:=by
 obtain⟨h1,h2,h3,h4,h5,h6,h7⟩:=h
 exact⟨box_other h1 (by omega),box_other h2 (by omega),box_other h3 (by omega),row_other h4 (ne_row h4 h5 (by decide)),set_at (i:=2) h5 _,box_other h6 (by omega),box_other h7 (by omega)⟩
theorem whB_first {s:ByteArray} {n:Nat} {W:World} {a b so:Int} {fst:Bool} {v:Value} {out:List Int} (h:WhB s n W a b so fst v out) (x:Bool):WhB s n (W.setCell ⟨n+4,0,none⟩ (.bool x)) a b so x v out:=by
 obtain⟨h1,h2,h3,h4,h5,h6,h7⟩:=h
 exact⟨box_other h1 (by omega),box_other h2 (by omega),box_other h3 (by omega),row_other h4 (ne_row h4 h6 (by decide)),box_other h5 (by omega),h6.set _,box_other h7 (by omega)⟩
theorem whB_cells {s:ByteArray} {n:Nat} {W:World} {a b so:Int} {fst:Bool} {v:Value} {out:List Int} (h:WhB s n W a b so fst v out) :
 W.cell? ⟨n+3,0,none⟩=some (.int .i8 a)∧W.cell? ⟨n+3,1,none⟩=some (.int .i8 b)∧W.cell? ⟨n+3,2,none⟩=some (.int .i8 so)∧W.frozen? ⟨n+3,0,none⟩=false∧W.frozen? ⟨n+3,1,none⟩=false∧W.frozen? ⟨n+3,2,none⟩=false:=by
 have h5:=h.2.2.2.2.1
 refine⟨?_,?_,?_,?_,?_,?_⟩ <;> simp [World.cell?,World.frozen?,h5]
theorem whB_rule {s:ByteArray} {n:Nat} {W:World} {a b so:Int} {fst:Bool} {v:Value} {out:List Int} (h:WhB s n W a b so fst v out) (i:Nat) (hi:i<12) :
 W.cell? ⟨n,i*2,none⟩=some (.func (.func (rulF i)) #[] #[])∧W.cell? ⟨n,i*2+1,none⟩=some (.int .i8 (rulV i)):=by
 have h1:=h.1
 obtain⟨g1,g2⟩:=rul_get i hi
 constructor
 ·simp [World.cell?,h1];exact g1
 ·simp [World.cell?,h1];exact g2
theorem whB_appended {s:ByteArray} {n:Nat} {W w1:World} {a b so:Int} {fst:Bool} {v v':Value} {out:List Int} {tmp:Obj} {y:Int} (h:WhB s n W a b so fst v out) (hg:(W.alloc tmp).grownBy w1 v.ownBlock)
 (hr:w1.ownsRow n 22 1 v' (out.length+1) (out.map (Value.int .i8)++[.int .i8 y])):WhB s n (w1.setCell ⟨n+2,0,none⟩ v') a b so fst v' (out++[y]):=by
 have h':=whB_kept (row:=none) h (World.grownBy_alloc W tmp none) (fun k e=>by cases e)
 obtain⟨h1,h2,h3,h4,h5,h6,h7⟩:=h'
 have lt:∀{k:Nat} {o:Obj},(W.alloc tmp).heap[k]? = some o→k<(W.alloc tmp).heap.size:=fun hb=>(Array.getElem?_eq_some_iff.1 hb).1
 have kp:∀{k t:Nat} {cs:Array Value} {f},(W.alloc tmp).heap[k]? = some (.cells cs t f)→t≠22→w1.heap[k]? = some (.cells cs t f):=fun {k t cs f} hk hte=>(hg.block k (lt hk) (fun e=>ne_row h4 hk hte k e.symm rfl)).trans hk
 have g3:Boxed w1 (n+2) 142 v:=kp h3 (by decide)
 refine⟨box_other (kp h1 (by decide)) (by omega),box_other (kp h2 (by decide)) (by omega),g3.set v',?_,box_other (kp h5 (by decide)) (by omega),box_other (kp h6 (by decide)) (by omega),box_other (kp h7 (by decide)) (by omega)⟩
 have:=row_other (B:=n+2) (i:=0) (u:=v') hr (ne_row hr g3 (by decide))
 rwa [List.length_append,List.length_singleton,List.map_append]
theorem own_frz {w:World} {base e size n cap G:Nat} {xs:List Value} (h:w.ownsRow base e size (.slice (some ⟨G,0,none⟩) n cap) n xs) (i:Nat):w.frozen? ⟨G,i,none⟩=false:=by
 rcases h.2 with ⟨h1,h0⟩ | ⟨g,cap',cur,h1,hb,hh,hc,hm,hs,ht⟩
 ·simp at h1
 ·simp only [Value.slice.injEq,Option.some.injEq,Addr.mk.injEq,and_true,true_and] at h1
  obtain⟨rfl,rfl⟩:=h1
  simp [World.frozen?,hh]
theorem whB_out {s:ByteArray} {n g cap:Nat} {W:World} {a b so y:Int} {fst:Bool} {out:List Int} (h:WhB s n W a b so fst (.slice (some ⟨g,0,none⟩) (out.length+1) cap) (out++[y])) (z:Int) :
 WhB s n (W.setCell ⟨g,out.length,none⟩ (.int .i8 z)) a b so fst (.slice (some ⟨g,0,none⟩) (out.length+1) cap) (out++[z])∧W.cell? ⟨g,out.length,none⟩=some (.int .i8 y)∧W.frozen? ⟨g,out.length,none⟩=false∧n≤g:=by
 obtain⟨h1,h2,h3,h4,h5,h6,h7⟩:=h
 have hlen:(out++[y]).length=out.length+1:=by simp
 rw [hlen] at h4
 have q1:=ne_row h4 h1 (by decide) g (by simp [Value.ownBlock])
 have q2:=ne_row h4 h2 (by decide) g (by simp [Value.ownBlock])
 have q3:=ne_row h4 h3 (by decide) g (by simp [Value.ownBlock])
 have q5:=ne_row h4 h5 (by decide) g (by simp [Value.ownBlock])
 have q6:=ne_row h4 h6 (by decide) g (by simp [Value.ownBlock])
 have q7:=ne_row h4 h7 (by decide) g (by simp [Value.ownBlock])
 have hst:=World.ownsRow.stored h4 out.length (.int .i8 z)
 have hc:=World.ownsRow.cellAt h4 out.length (by omega)
 have hf:=own_frz h4 out.length
 have hg:n≤g:=by
  rcases h4.2 with ⟨e,_⟩ | ⟨g',cap',cur,e,hb,_⟩
  ·cases e
  ·cases e;exact hb
 refine⟨⟨box_other h1 (Ne.symm q1),box_other h2 (Ne.symm q2),box_other h3 (Ne.symm q3),?_,box_other h5 (Ne.symm q5),box_other h6 (Ne.symm q6),box_other h7 (Ne.symm q7)⟩,?_,hf,hg⟩
 ·have:=hst.1
  rw [List.map_append,List.set_append_right _ _ (by simp)] at this
  simpa [hlen] using this
 ·rw [hc,List.map_append,List.getElem?_append_right (by simp)]
  simp
theorem Tryz.info_int8b:(Tryz.prog.info? 22).map (fun i=>(i.zero,i.size,i.bytes))=some (some (.int .i8 0),1,1):=by kernel_rfl
theorem rule_call (i:Nat) (hi:i<12) (args:Array Value) (W:World):(callFunc (rulF i) args).run Tryz.prog W=.ok (.enter (rulF i) args) W:=by
 have:i=0∨i=1∨i=2∨i=3∨i=4∨i=5∨i=6∨i=7∨i=8∨i=9∨i=10∨i=11:=by omega
 rcases this with rfl | rfl | rfl | rfl | rfl | rfl | rfl | rfl | rfl | rfl | rfl | rfl <;> (unfold rulF;go_simp)
theorem whr_close {s:ByteArray} {w:World} {n:Nat} (hn:w.heap.size=n) {pre:List (PieceOf s)} {x:PieceOf s} {W Wf:World} {a b so bk:Int} {v:Value} {out:List Int} {act:Act} (hcb:W.cell? ⟨n+5,0,none⟩=some (.string s)) (hx:bkindI x.1.2=bk)
 (hW:Whr (pre.map (fun p=>bkindI p.1.2)++[bk]) a so false out) (hB:WhB s n Wf a b so false v out) (hb:Below n w W) (hb':Below n W Wf) (hk:KeepsOthers W Wf) :
 ownPostK (KpB (n+5) n) (WhrI s w) (fun _ _ _=>False) (pre++[x]) W .normal act Wf:=by
 refine⟨hk,⟨hb',fun u hu=>?_⟩,a,b,so,false,v,out,?_,by rw [hn];exact hB,by rw [hn];exact hb.trans hb'⟩
 ·rw [hcb] at hu
  cases hu
  exact Boxed.cell hB.2.2.2.2.2.2
 ·rw [List.map_append,List.map_singleton,hx]
  exact hW
set_option maxRecDepth 100000 in
set_option maxHeartbeats 400000 in
theorem Where_any (s:ByteArray) (w:World) (hT:T8 w) (hs:s.size≤2097152) :
 Calls Tryz.prog 118 #[.string s] w fun e w'=>∃a c,e=.returned (.slice a (whereI s).length c)∧OutAt .i8 22 w' w.heap.size a c (whereI s)∧Below w.heap.size w w':=by
 obtain⟨n,hn⟩:∃n,w.heap.size=n:=⟨_,rfl⟩
 refine (callsIn_wide (n:=4)).1 ?_
 refine callsIn_of_wp_marks Tryz.func118 rfl trivial ?_ rfl
 simp only [Tryz.ntmps118,List.size_toArray,List.length_cons,List.length_nil,Nat.reduceAdd,Nat.reduceSub,Array.replicate_succ,Array.replicate_zero,List.push_toArray,List.append_toArray,List.nil_append,List.cons_append]
 gi_wp2_with (fail)
 refine wpIn_wide.2 (wp_scope_straight ((wpIn_wide (n:=4)).1 ?_))
 gi_wp2_with (fail)
 refine⟨trivial,?_⟩
 refine (callsIn_wide.2 (brules_any _)).mono ?_
 rintro e' W0 ⟨rfl,hW0⟩
 gi_wp2_with (fail)
 refine wpIn_label ?_
 gi_wp2_with (fail)
 refine⟨trivial,?_⟩
 refine (callsIn_wide.2 (All_any s _)).mono ?_
 rintro e' W0 ⟨rfl,hW0⟩
 replace hW0:W0=whW s w n:=hW0
 obtain⟨hB0,hb0,hsz⟩:=whB_start s w n hn
 rw [←hW0] at hB0 hb0 hsz
 clear hW0
 have hT0:=hT.below rfl (by rw [hn];exact hb0)
 rw [show (((((w.alloc (Obj.cells rulCells.toArray 212)).alloc (Obj.cells #[Value.slice (some { block:=n,off:=0 }) 12 12] 206)).alloc (Obj.cells #[Value.slice none 0 0] 142)).alloc (Obj.cells #[Value.int IntKind.i8 0,Value.int IntKind.i8 0,Value.int IntKind.i8 (-1)] 209)).alloc (Obj.cells #[Value.bool true] 4)).heap.size=n+5 by simp only [World.size_alloc,hn]]
 unfold itV
 gi_wp2_with (fail)
 have h3:Tryz.lays197_ren.g 3<n:=by have:=cell_lt (hT.1 0 (by omega));omega
 have h4:Tryz.lays197_ren.g 4<n:=by have:=cell_lt (hT.2 0 (by omega)).1;omega
 have hcb:W0.cell? ⟨n+5,0,none⟩=some (.string s):=Boxed.cell hB0.2.2.2.2.2.2
 refine wpIn_rangeFunc_ownF (F:=Fence.wide) rfl (by omega) (gf:=54) (lb:=#[.pointer (some ⟨n+5,0,none⟩)]) rfl trivial (enters_of Tryz.func54 (by kernel_rfl) rfl)
  (pieces_stops 3 (by omega) (n+5) n s (by omega) h3 h4 W0 (by omega) hcb hT0) (fun h k=>KpB.trans h k) (kpB_put (w:=W0) (by omega)) (Below.refl _ _) (fun _=>rfl) (WhrI s w) (fun _ _ _=>False) ?hI (fun _ _ _ _ _ hs _ _=>hs) ?h0
  (fun x=>{ tmps:=#[.string s,undef,.slice none 0 0,.pointer (some ⟨n+1,0,none⟩),.pointer (some ⟨n+2,0,none⟩),.pointer (some ⟨n+3,0,none⟩),.pointer (some ⟨n+4,0,none⟩),undef,.string x.1.2,undef,undef,.slice (some ⟨n,0,none⟩) 12 12,.agg #[.int .i8 0,.int .i8 0,.int .i8 (-1)],.string s,.func (.func 54) #[] #[.pointer (some ⟨n+5,0,none⟩)],.int .i64 x.1.1,.string x.1.2,
    undef,undef,undef,undef,undef,undef,undef,undef,undef,undef,undef,undef,undef,undef,undef,undef,undef,undef,undef,undef,undef,undef,undef,undef,undef,undef,undef,undef,undef,undef,undef,undef,undef,undef,undef,undef,undef,undef,undef,undef,undef,undef,undef,undef,undef,undef],defers:=[] }) ?assign ?body ?done ?stop
 case hI =>
  rintro pre A B row ⟨a,b,so,fst,v,out,hw,hB,hb⟩ hg hrow
  exact⟨a,b,so,fst,v,out,hw,whB_kept hB hg (fun k e=>(hrow k e).2),by rw [hn] at hb ⊢;exact hb.grown hg (by have:=hb.size;omega) (fun k e=>by have:=(hrow k e).1;omega)⟩
 case h0=>exact⟨0,0,-1,true,_,_,.inl ⟨rfl,rfl,rfl,rfl,rfl⟩,by rw [hn];exact hB0,by rw [hn];exact hb0⟩
 case assign =>
  intro l x W K hK
  gi_wp2_with (fail)
  exact hK
 case body =>
  rintro l pre x W ⟨a,b0,so,fst,v,out,hw,hB,hb⟩ hlt
  obtain⟨c,hcc⟩:∃c,x.1.2=c:=⟨_,rfl⟩
  obtain⟨at',hat⟩:∃a,x.1.1=a:=⟨_,rfl⟩
  simp only [hat,hcc]
  have hpl:=pieces_len s
  have hol:=whr_len hw
  rw [List.length_map] at hol
  have hol2:out.length+1≤2097152:=by omega
  rw [hn] at hB hb
  obtain⟨bk,hbk⟩:∃y,bkindI c=y:=⟨_,rfl⟩
  have hs0:=hb.size
  have hWn:n+6≤W.heap.size:=Boxed.lt hB.2.2.2.2.2.2
  have hT1:T8 W:=hT.below (by rfl) (by rw [hn];exact hb)
  have hbk':=bkind_any c W hT1
  rw [hbk] at hbk'
  have HBK:=lh hbk'
  have HXK:Hid (bkindI x.1.2=bk):=lh (by rw [hcc];exact hbk)
  have HCB:=lh (Boxed.cell hB.2.2.2.2.2.2)
  have HL:=lh hbk
  have HX:=lh hcc
  have HT1:=lh hT1
  have HW:=lh hw
  have HBB:=lh hB
  have HB:=lh hb
  have HPL:=lh hpl
  have HLT:=lh hlt
  have HOL:=lh hol
  clear hbk' hbk hcc hT1 hw hB hb hT hT0 hb0 hB0 hcb hpl hlt hol hat
  gi_wp2_with (fail)
  refine⟨trivial,?_⟩
  refine (CallsIn.inRound l (callsIn_wide.2 HBK.out)).mono ?_
  rintro e' W1 ⟨rfl,hb1⟩
  have hB1:=whB_below HBB.out hb1
  obtain⟨p0,p1,p2,f0,f1,f2⟩:=whB_cells hB1
  gi_upto_region 8 with (fail)
  have hB2:=whB_b hB1 bk
  have hb2:Below n W (W1.setCell ⟨n+3,1,none⟩ (.int .i8 bk)):=(hb1.mono (by omega)).setCell (p:=⟨n+3,1,none⟩) (Nat.le_add_right _ _) _
  have hk2:KeepsOthers W (W1.setCell ⟨n+3,1,none⟩ (.int .i8 bk)):=(keeps_below hb1).trans (KeepsOthers.setCell _ _ _)
  generalize W1.setCell ⟨n+3,1,none⟩ (.int .i8 bk)=W2 at hB2 hb2 hk2 ⊢
  clear p0 p1 p2 f0 f1 f2 hB1 hb1
  have hs2:n+6≤W2.heap.size:=Boxed.lt hB2.2.2.2.2.2.2
  cases fst with
  | true =>
    have HFW:=lh (whr_first HW.out bk)
    obtain⟨p0,p1,p2,f0,f1,f2⟩:=whB_cells hB2
    have c6:=hB2.2.2.2.2.2.1.cell
    have f6:=hB2.2.2.2.2.2.1.frozen
    have HB2:=lh hB2
    have HB2':=lh hb2
    have HK2:=lh hk2
    clear hB2 hb2 hk2
    gi_upto_region 17 with (fail)
    have hB3:=whB_first (whB_a HB2.out bk) false
    have hb3:Below n W ((W2.setCell ⟨n+3,0,none⟩ (.int .i8 bk)).setCell ⟨n+4,0,none⟩ (.bool false)):=(HB2'.out.setCell (p:=⟨n+3,0,none⟩) (Nat.le_add_right _ _) _).setCell (p:=⟨n+4,0,none⟩) (Nat.le_add_right _ _) _
    have hk3:=(HK2.out.trans (KeepsOthers.setCell _ ⟨n+3,0,none⟩ (.int .i8 bk))).trans (KeepsOthers.setCell _ ⟨n+4,0,none⟩ (.bool false))
    generalize (W2.setCell ⟨n+3,0,none⟩ (.int .i8 bk)).setCell ⟨n+4,0,none⟩ (.bool false)=W3 at hB3 hb3 hk3 ⊢
    clear p0 p1 p2 f0 f1 f2 c6 f6 HB2 HB2' HK2
    have hs3:n+6≤W3.heap.size:=Boxed.lt hB3.2.2.2.2.2.2
    obtain⟨p0,p1,p2,f0,f1,f2⟩:=whB_cells hB3
    have HB3:=lh hB3
    have HBB3:=lh hb3
    have HK3:=lh hk3
    clear hB3 hb3 hk3
    gi_wp2_with (fail)
    refine⟨trivial,?_⟩
    refine (CallsIn.inRound l (callsIn_wide.2 (spaced_any bk bk so W3))).mono ?_
    rintro e' W4 ⟨rfl,hb4⟩
    have hB4:=whB_below HB3.out hb4
    have hbb4:=HBB3.out.trans (hb4.mono (by omega))
    have hk4:=HK3.out.trans (keeps_below hb4)
    clear p0 p1 p2 f0 f1 f2 HB3 HBB3 HK3
    by_cases e1:bk=1
    ·rw [decide_eq_true e1]
     rw [if_pos e1] at HFW
     have HB4:=lh hB4
     have HBB4:=lh hbb4
     have HK4:=lh hk4
     clear hB4 hbb4 hk4
     gi_wp2_with (fail)
     exact whr_close hn HCB.out HXK.out HFW.out HB4.out HB.out HBB4.out HK4.out
    ·rw [decide_eq_false e1]
     rw [if_neg e1] at HFW
     obtain⟨p0,p1,p2,f0,f1,f2⟩:=whB_cells hB4
     have HB4:=lh hB4
     have HBB4:=lh hbb4
     have HK4:=lh hk4
     clear hB4 hbb4 hk4
     gi_wp2_with (fail)
     exact whr_close hn HCB.out HXK.out HFW.out (whB_so HB4.out bk) HB.out (HBB4.out.setCell (p:=⟨n+3,2,none⟩) (Nat.le_add_right _ _) _) (HK4.out.trans (KeepsOthers.setCell _ _ _))
  | false =>
    obtain⟨i0,hi0,hz0,hz1,hz2⟩:=info_parts Tryz.info_int8b
    have HFW:=lh (whr_next HW.out bk)
    have c6:=hB2.2.2.2.2.2.1.cell
    have f6:=hB2.2.2.2.2.2.1.frozen
    have c4:=hB2.2.2.1.cell
    have hr:=hB2.2.2.2.1
    have hv:=hB2.2.2.1
    have HB2:=lh hB2
    have HB2':=lh hb2
    have HK2:=lh hk2
    clear hB2 hb2 hk2
    gi_upto_region 10 with (gi_at_builtin;refine wpListIn_append_own _ rfl _ _ 142 rfl n 22 i0 (.int .i8 0) 1 1 Tryz.underlying142 hi0 hz0 hz1 hz2 rfl (by decide) _ _ _ rfl (hr.alloc _) ⟨W2.heap.size,0,none⟩ 1 1 [.int .i8 0] rfl rfl (by exact cell_one_new _ _ _) (by simp [Value.oneCell']) (by unfold maxLen;omega) (by omega) (by simp;omega) ?_;intro v' w1 hown' hgrow _;obtain⟨g',cap',rfl⟩:=ownsRow_succ hown';obtain⟨hv1,hv2,hr2,hk2',hb2⟩:=hv.appended (by decide) hr (by omega) (by omega) hown' hgrow;have hc1:=hv1.cell;have hf1:=hv1.frozen)
    have hB3:=whB_appended HB2.out hgrow hown'
    have hb3:Below n W (w1.setCell ⟨n+2,0,none⟩ (.slice (some ⟨g',0,none⟩) (out.length+1) cap')):=HB2'.out.trans hb2
    have hk3:=HK2.out.trans hk2'
    generalize w1.setCell ⟨n+2,0,none⟩ (.slice (some ⟨g',0,none⟩) (out.length+1) cap')=W3 at hB3 hb3 hk3 ⊢
    clear hv1 hv2 hr2 hk2' hb2 hc1 hf1 hown' hgrow c6 f6 c4 hr hv HB2 HB2' HK2 hs2 hi0 hz0 hz1 hz2
    have hs3:n+6≤W3.heap.size:=Boxed.lt hB3.2.2.2.2.2.2
    have c3:=hB3.2.1.cell
    have HB3:=lh hB3
    have HBB3:=lh hb3
    have HK3:=lh hk3
    clear hB3 hb3 hk3
    gi_wp2_with (fail)
    gi_loopw [27] (fun u27 wr=>∃i:Nat,i≤12∧u27=.int .i64 i∧Below W3.heap.size W3 wr∧rulL a bk so 0 (12-i) i=ruleI a bk so) (fun u27 _=>12-(intOf u27).toNat)
    case atStart=>exact⟨0,by omega,rfl,Below.refl _ _,rulL_all a bk so⟩
    case round =>
     obtain⟨i,hi,rfl,hbr,hru⟩:=hrel
     have hBr:=whB_below HB3.out hbr
     have hbbr:=HBB3.out.trans (hbr.mono (by omega))
     have hkr:=HK3.out.trans (keeps_below hbr)
     have hsr:n+6≤wr.heap.size:=Boxed.lt hBr.2.2.2.2.2.2
     by_cases hlt:i<12
     ·obtain⟨k1,k2⟩:=whB_rule hBr i hlt
      have HRU:=lh hru
      have HBr:=lh hBr
      have HBBr:=lh hbbr
      have HKr:=lh hkr
      have HBW:=lh hbr
      clear hru hBr hbbr hkr hbr
      gi_upto_region 13 with (fail)
      clear k1 k2
      have hbx:Below wr.heap.size wr (wr.alloc (.cells #[.func (.func (rulF i)) #[] #[],.int .i8 (rulV i)] 212)):=(Below.refl _ _).alloc (Nat.le_refl _) _
      have hB5:=whB_below HBr.out hbx
      have hx0:(wr.alloc (.cells #[.func (.func (rulF i)) #[] #[],.int .i8 (rulV i)] 212)).heap[wr.heap.size]? = some (.cells #[.func (.func (rulF i)) #[] #[],.int .i8 (rulV i)] 212 (0,0)):=World.alloc_heap_new wr _
      generalize wr.alloc (.cells #[.func (.func (rulF i)) #[] #[],.int .i8 (rulV i)] 212)=W5 at hbx hB5 hx0 ⊢
      obtain⟨p0,p1,p2,f0,f1,f2⟩:=whB_cells hB5
      have x0:W5.cell? ⟨wr.heap.size,0,none⟩=some (.func (.func (rulF i)) #[] #[]):=by simp [World.cell?,hx0]
      have hxl:wr.heap.size<W5.heap.size:=(Array.getElem?_eq_some_iff.1 hx0).1
      have HB5:=lh hB5
      have HX0:=lh hx0
      have HBX:=lh hbx
      clear hbx hB5 hx0
      gi_wp2_with (fail)
      rw [rule_call i hlt,Oper.uponIn_enter]
      refine⟨trivial,fun _=>by omega,?_⟩
      refine (CallsIn.inRound l (callsIn_wide.2 (rule_any i hlt a bk so W5))).mono ?_
      rintro e' W6 ⟨rfl,hb6⟩
      have hB6:=whB_below HB5.out hb6
      have hx6:W6.heap[wr.heap.size]? = some (.cells #[.func (.func (rulF i)) #[] #[],.int .i8 (rulV i)] 212 (0,0)):=Eq.trans (hb6.block wr.heap.size hxl) HX0.out
      have hbw6:=HBX.out.trans (hb6.mono (by omega))
      clear p0 p1 p2 f0 f1 f2 x0 HB5 HX0 HBX
      by_cases hru:rulB a bk so i=true
      ·rw [hru]
       have hV:rulV i=ruleI a bk so:=by
        have:=HRU.out
        obtain⟨m,hm⟩:∃m,12-i=m+1:=⟨11-i,by omega⟩
        rwa [hm,rulL,if_pos hru] at this
       obtain⟨hO,hOc,hOf,hng⟩:=whB_out hB6 (rulV i)
       have c4:=hB6.2.2.1.cell
       have x1:W6.cell? ⟨wr.heap.size,1,none⟩=some (.int .i8 (rulV i)):=by simp [World.cell?,hx6]
       have HO:=lh hO
       have HBW6:=lh hbw6
       have HV:=lh hV
       clear hB6 hO hx6 hbw6 hV hb6
       gi_upto_region 16 with (fail)
       have hB2:=HO.out
       have hb2:Below n W (W6.setCell ⟨g',out.length,none⟩ (.int .i8 (rulV i))):=((HBBr.out.trans (HBW6.out.mono (by omega))).setCell (p:=⟨g',out.length,none⟩) hng _)
       have hk2:KeepsOthers W (W6.setCell ⟨g',out.length,none⟩ (.int .i8 (rulV i))):=(HKr.out.trans (keeps_below HBW6.out)).trans (KeepsOthers.setCell _ _ _)
       rw [←HV.out] at HFW
       clear hOc hOf c4 x1 HO HBW6 HBBr HKr HBr HRU HBW HV
       generalize W6.setCell ⟨g',out.length,none⟩ (.int .i8 (rulV i))=W2 at hB2 hb2 hk2 ⊢
       obtain⟨p0,p1,p2,f0,f1,f2⟩:=whB_cells hB2
       have c6:=hB2.2.2.2.2.2.1.cell
       have f6:=hB2.2.2.2.2.2.1.frozen
       have hs2:n+6≤W2.heap.size:=Boxed.lt hB2.2.2.2.2.2.2
       have HB2:=lh hB2
       have HB2':=lh hb2
       have HK2:=lh hk2
       clear hB2 hb2 hk2
       gi_upto_region 17 with (fail)
       have hB3:=whB_first (whB_a HB2.out bk) false
       have hb3:Below n W ((W2.setCell ⟨n+3,0,none⟩ (.int .i8 bk)).setCell ⟨n+4,0,none⟩ (.bool false)):=(HB2'.out.setCell (p:=⟨n+3,0,none⟩) (Nat.le_add_right _ _) _).setCell (p:=⟨n+4,0,none⟩) (Nat.le_add_right _ _) _
       have hk3:=(HK2.out.trans (KeepsOthers.setCell _ ⟨n+3,0,none⟩ (.int .i8 bk))).trans (KeepsOthers.setCell _ ⟨n+4,0,none⟩ (.bool false))
       generalize (W2.setCell ⟨n+3,0,none⟩ (.int .i8 bk)).setCell ⟨n+4,0,none⟩ (.bool false)=W3 at hB3 hb3 hk3 ⊢
       clear p0 p1 p2 f0 f1 f2 c6 f6 HB2 HB2' HK2
       have hs3:n+6≤W3.heap.size:=Boxed.lt hB3.2.2.2.2.2.2
       obtain⟨p0,p1,p2,f0,f1,f2⟩:=whB_cells hB3
       have HB3:=lh hB3
       have HBB3:=lh hb3
       have HK3:=lh hk3
       clear hB3 hb3 hk3
       gi_wp2_with (fail)
       refine⟨trivial,?_⟩
       refine (CallsIn.inRound l (callsIn_wide.2 (spaced_any bk bk so W3))).mono ?_
       rintro e' W4 ⟨rfl,hb4⟩
       have hB4:=whB_below HB3.out hb4
       have hbb4:=HBB3.out.trans (hb4.mono (by omega))
       have hk4:=HK3.out.trans (keeps_below hb4)
       clear p0 p1 p2 f0 f1 f2 HB3 HBB3 HK3
       by_cases e1:bk=1
       ·rw [decide_eq_true e1]
        rw [if_pos e1] at HFW
        have HB4:=lh hB4
        have HBB4:=lh hbb4
        have HK4:=lh hk4
        clear hB4 hbb4 hk4
        gi_wp2_with (fail)
        exact whr_close hn HCB.out HXK.out HFW.out HB4.out HB.out HBB4.out HK4.out
       ·rw [decide_eq_false e1]
        rw [if_neg e1] at HFW
        obtain⟨p0,p1,p2,f0,f1,f2⟩:=whB_cells hB4
        have HB4:=lh hB4
        have HBB4:=lh hbb4
        have HK4:=lh hk4
        clear hB4 hbb4 hk4
        gi_wp2_with (fail)
        exact whr_close hn HCB.out HXK.out HFW.out (whB_so HB4.out bk) HB.out (HBB4.out.setCell (p:=⟨n+3,2,none⟩) (Nat.le_add_right _ _) _) (HK4.out.trans (KeepsOthers.setCell _ _ _))
      ·rw [Bool.eq_false_iff.2 hru]
       have HRL:=lh (HBW.out.trans (hbw6.mono (HBW.out.size)))
       have HRU':Hid (rulL a bk so 0 (12-(i+1)) (i+1)=ruleI a bk so):=lh (by
        have:=HRU.out
        obtain⟨m,hm⟩:∃m,12-i=m+1:=⟨11-i,by omega⟩
        rw [hm,rulL,if_neg hru] at this
        rwa [show 12-(i+1)=m by omega])
       clear hB6 hx6 hbw6 hb6 HBr HBBr HKr HBW HRU
       gi_wp2_with (fail)
       go_roundw
       case rel=>exact⟨i+1,by omega,by go_num,HRL.out,HRU'.out⟩
       case measure=>simp [intOf];omega
     ·obtain rfl:12=i:=by omega
      have hV:(0:Int)=ruleI a bk so:=hru
      rw [←hV] at HFW
      have hB2:=hBr
      have hb2:=hbbr
      have hk2:=hkr
      clear hBr hbbr hkr hbr hru hV HB3 HBB3 HK3
      clear hs3 c3
      gi_upto_region 16 with (fail)
      generalize wr=W2 at hB2 hb2 hk2 ⊢
      obtain⟨p0,p1,p2,f0,f1,f2⟩:=whB_cells hB2
      have c6:=hB2.2.2.2.2.2.1.cell
      have f6:=hB2.2.2.2.2.2.1.frozen
      have hs2:n+6≤W2.heap.size:=Boxed.lt hB2.2.2.2.2.2.2
      have HB2:=lh hB2
      have HB2':=lh hb2
      have HK2:=lh hk2
      clear hB2 hb2 hk2
      gi_upto_region 17 with (fail)
      have hB3:=whB_first (whB_a HB2.out bk) false
      have hb3:Below n W ((W2.setCell ⟨n+3,0,none⟩ (.int .i8 bk)).setCell ⟨n+4,0,none⟩ (.bool false)):=(HB2'.out.setCell (p:=⟨n+3,0,none⟩) (Nat.le_add_right _ _) _).setCell (p:=⟨n+4,0,none⟩) (Nat.le_add_right _ _) _
      have hk3:=(HK2.out.trans (KeepsOthers.setCell _ ⟨n+3,0,none⟩ (.int .i8 bk))).trans (KeepsOthers.setCell _ ⟨n+4,0,none⟩ (.bool false))
      generalize (W2.setCell ⟨n+3,0,none⟩ (.int .i8 bk)).setCell ⟨n+4,0,none⟩ (.bool false)=W3 at hB3 hb3 hk3 ⊢
      clear p0 p1 p2 f0 f1 f2 c6 f6 HB2 HB2' HK2
      have hs3:n+6≤W3.heap.size:=Boxed.lt hB3.2.2.2.2.2.2
      obtain⟨p0,p1,p2,f0,f1,f2⟩:=whB_cells hB3
      have HB3:=lh hB3
      have HBB3:=lh hb3
      have HK3:=lh hk3
      clear hB3 hb3 hk3
      gi_wp2_with (fail)
      refine⟨trivial,?_⟩
      refine (CallsIn.inRound l (callsIn_wide.2 (spaced_any bk bk so W3))).mono ?_
      rintro e' W4 ⟨rfl,hb4⟩
      have hB4:=whB_below HB3.out hb4
      have hbb4:=HBB3.out.trans (hb4.mono (by omega))
      have hk4:=HK3.out.trans (keeps_below hb4)
      clear p0 p1 p2 f0 f1 f2 HB3 HBB3 HK3
      by_cases e1:bk=1
      ·rw [decide_eq_true e1]
       rw [if_pos e1] at HFW
       have HB4:=lh hB4
       have HBB4:=lh hbb4
       have HK4:=lh hk4
       clear hB4 hbb4 hk4
       gi_wp2_with (fail)
       exact whr_close hn HCB.out HXK.out HFW.out HB4.out HB.out HBB4.out HK4.out
      ·rw [decide_eq_false e1]
       rw [if_neg e1] at HFW
       obtain⟨p0,p1,p2,f0,f1,f2⟩:=whB_cells hB4
       have HB4:=lh hB4
       have HBB4:=lh hbb4
       have HK4:=lh hk4
       clear hB4 hbb4 hk4
       gi_wp2_with (fail)
       exact whr_close hn HCB.out HXK.out HFW.out (whB_so HB4.out bk) HB.out (HBB4.out.setCell (p:=⟨n+3,2,none⟩) (Nat.le_add_right _ _) _) (HK4.out.trans (KeepsOthers.setCell _ _ _))
 case done =>
  rintro D xs W hD hxs ⟨a,b0,so,fst,v,out,hw,hB,hb⟩ hK
  have hol:=whr_len hw
  have hpl:=pieces_len s
  have hxl:xs.length=(piecesI s).length:=by rw [←hxs,List.length_map]
  rw [List.length_map] at hol
  have hkk:xs.map (fun p=>bkindI p.1.2)=(piecesI s).map (fun p=>bkindI p.2):=by rw [←hxs,List.map_map];rfl
  rw [hkk] at hw
  have hI:=whereI_K s
  rw [hn] at hB hb
  have hWn:n+6≤W.heap.size:=Boxed.lt hB.2.2.2.2.2.2
  have c6:=hB.2.2.2.2.2.1.cell
  cases fst with
  | true =>
    have hnil:=whr_nil hw
    rw [←hI] at hnil
    have HI:=lh hnil
    have HB:=lh hB
    have HBB:=lh hb
    have HDK:=lh hK
    clear hI hnil hB hb hw hkk hxs hol hK hT hT0 hb0 hB0 hcb
    gi_wp2_with (fail)
    rw [Exit.noGoto_ret]
    refine⟨by simp,.inl ⟨_,_,rfl,run_takeDeferred HDK.out,?_⟩⟩
    exact⟨_,results_tmp rfl _ _ _,none,0,by rw [HI.out];rfl,by rw [HI.out];exact World.ownsRow_nil _ _ _ _,by rw [hn];exact HBB.out.trans (belowK_b (w:=W0) (by omega) W D _ _ hD HDK.out rfl rfl)⟩
  | false =>
    have hdn:=whr_done hw
    rw [←hI] at hdn
    obtain⟨i0,hi0,hz0,hz1,hz2⟩:=info_parts Tryz.info_int8b
    have hr:=hB.2.2.2.1
    have hv:=hB.2.2.1
    have c4:=hv.cell
    have hne:some D≠v.ownBlock:=fun e=>by
     rcases hr.2 with ⟨rfl,_⟩ | ⟨g,cap,cur,rfl,_,hgb,_⟩
     ·simp [Value.ownBlock] at e
     ·obtain rfl:g=D:=by simpa [Value.ownBlock] using e.symm
      rw [hgb] at hK;cases hK
    have HNE:=lh hne
    clear hne
    have hrow:∀k,v.ownBlock=some k→n≤k:=fun k e=>by
     rcases hr.2 with ⟨rfl,_⟩ | ⟨g,cap,cur,rfl,hg,_⟩
     ·simp [Value.ownBlock] at e
     ·obtain rfl:g=k:=by simpa [Value.ownBlock] using e
      exact hg
    obtain⟨p0,p1,p2,f0,f1,f2⟩:=whB_cells hB
    have hol2:out.length+1≤2097152:=by omega
    have HR:=lh hrow
    have HBB:=lh hb
    have HDK:=lh hK
    have HDN:=lh hdn
    clear hI hdn hB hb hw hkk hxs hol hpl hxl hK hT hT0 hb0 hB0 hcb hrow
    have fin:∀(y:Int) (w1:World) (g' cap':Nat) (tmp:Obj),whereI s=out++[y]→w1.ownsRow n 22 1 (.slice (some ⟨g',0,none⟩) (out.length+1) cap') (out.length+1) (out.map (Value.int .i8)++[.int .i8 y])→(W.alloc tmp).grownBy w1 v.ownBlock →
     w1.heap[D]? = some (.deferred (some []))∧(.slice (some ⟨g',0,none⟩) (out.length+1) cap':Value)=.slice (some ⟨g',0,none⟩) (whereI s).length cap'∧OutAt .i8 22 (w1.putObj D (.deferred none)) w.heap.size (some ⟨g',0,none⟩) cap' (whereI s)∧Below w.heap.size w (w1.putObj D (.deferred none)):=by
     intro y w1 g' cap' tmp he ho hg
     have hd:w1.heap[D]? = some (.deferred (some [])):=(hg.block D (by have:=(Array.getElem?_eq_some_iff.1 HDK.out).1;simp;omega) HNE.out).trans (((World.grownBy_alloc W tmp none).block D (Array.getElem?_eq_some_iff.1 HDK.out).1 (by simp)).trans HDK.out)
     have hl:(whereI s).length=out.length+1:=by rw [he,List.length_append,List.length_singleton]
     refine⟨hd,by rw [hl],?_,?_⟩
     ·unfold OutAt
      rw [hl,he,List.map_append,hn]
      exact ownsRow_putObj ho _ hd rfl
     ·rw [hn]
      exact ((HBB.out.alloc (by omega) tmp).grown hg (by simp;omega) HR.out).trans (belowK_b (w:=W0) (by omega) w1 D _ _ hD hd rfl rfl)
    have HF:=lh fin
    clear fin
    by_cases e2:a=2
    ·subst e2
     gi_wp2_with (gi_at_builtin;refine wpListIn_append_own _ rfl _ _ 142 rfl n 22 i0 (.int .i8 0) 1 1 Tryz.underlying142 hi0 hz0 hz1 hz2 rfl (by decide) _ _ _ rfl (hr.alloc _) ⟨W.heap.size,0,none⟩ 1 1 [.int .i8 2] rfl rfl (by exact cell_one_new _ _ _) (by simp [Value.oneCell']) (by unfold maxLen;omega) (by omega) (by simp;omega) ?_;intro v' w1 hown' hgrow _;obtain⟨g',cap',rfl⟩:=ownsRow_succ hown')
     obtain⟨hd1,he1,hO1,hb1⟩:=HF.out 2 w1 g' cap' _ (by rw [HDN.out];rfl) hown' hgrow
     refine⟨by simp,.inl ⟨_,_,rfl,run_takeDeferred hd1,?_⟩⟩
     exact⟨_,results_tmp rfl _ _ _,_,_,by rw [←he1];rfl,hO1,hb1⟩
    ·have c2:(a==2)=false:=by simpa using e2
     gi_wp2_with (gi_at_builtin;refine wpListIn_append_own _ rfl _ _ 142 rfl n 22 i0 (.int .i8 0) 1 1 Tryz.underlying142 hi0 hz0 hz1 hz2 rfl (by decide) _ _ _ rfl (hr.alloc _) ⟨W.heap.size,0,none⟩ 1 1 [.int .i8 0] rfl rfl (by exact cell_one_new _ _ _) (by simp [Value.oneCell']) (by unfold maxLen;omega) (by omega) (by simp;omega) ?_;intro v' w1 hown' hgrow _;obtain⟨g',cap',rfl⟩:=ownsRow_succ hown')
     obtain⟨hd1,he1,hO1,hb1⟩:=HF.out 0 w1 g' cap' _ (by rw [HDN.out,if_neg e2]) hown' hgrow
     refine⟨by simp,.inl ⟨_,_,rfl,run_takeDeferred hd1,?_⟩⟩
     exact⟨_,results_tmp rfl _ _ _,_,_,by rw [←he1];rfl,hO1,hb1⟩
 case stop =>
  rintro D c pre W hD _ h _
  exact h.elim
end
end Go.Proofs.YtlbclfmbejjneaaGreatDoor
