/- Part 32 (merged by a program): lemmas of no further condition than each states. -/
import Derived.Test.YtlbclfmbejjneaaGreatDoorR30
import Derived.Test.YtlbclfmbejjneaaGreatDoorR31
namespace Go.Proofs.YtlbclfmbejjneaaGreatDoor
set_option linter.unusedVariables false
set_option linter.unusedSimpArgs false
section
open Go.RowKit Go.Proofs Go.Shelf
attribute [local go_sem] Oper.semAt_some
theorem ownsRow_low {X:World} {b b' e z k:Nat} {v:Value} {xs:List Value} (h:X.ownsRow b e z v k xs) (hb:b'≤b):X.ownsRow b' e z v k xs:=ownsRow_base h hb
theorem rows_apart {X:World} {b1 b2 e1 e2 z1 z2 k1 k2:Nat} {v1 v2:Value} {xs1 xs2:List Value} (h1:X.ownsRow b1 e1 z1 v1 k1 xs1) (h2:X.ownsRow b2 e2 z2 v2 k2 xs2) (hne:e1≠e2):v2.ownBlock=none∨v2.ownBlock≠v1.ownBlock:=by
 rcases h2.2 with ⟨h,_⟩ | ⟨g,cap,cur,h,_,hgb,_⟩
 ·exact .inl (by rw [h];rfl)
 ·refine .inr fun e'=>?_
  rcases h1.2 with ⟨h',_⟩ | ⟨g',cap',cur',h',_,hgb',_⟩
  ·rw [h,h'] at e';cases e'
  ·rw [h,h'] at e'
   cases e'
   rw [hgb] at hgb'
   cases hgb'
   exact hne rfl
theorem own_apart {u v:Value} (h:u.ownBlock=none∨u.ownBlock≠v.ownBlock):v.ownBlock=none∨v.ownBlock≠u.ownBlock:=by
 rcases h with h | h
 ·rw [h]
  cases v.ownBlock with
  | none=>exact .inl rfl
  | some b=>exact .inr (fun e=>by cases e)
 ·exact .inr (fun e=>h e.symm)
def TwS (M:Nat) (wr:World) (v2 v3:Value) (l2 l3:List Value) (W:World):Prop :=
 Below M wr W∧M≤W.heap.size∧W.ownsRow M 3 1 v2 l2.length l2∧W.ownsRow M 3 1 v3 l3.length l3∧(v2.ownBlock=none∨v2.ownBlock≠v3.ownBlock)
section
variable {M:Nat} {wr W W':World} {v2 v3 v' x:Value} {l2 l3:List Value}
theorem TwS.alloc (h:TwS M wr v2 v3 l2 l3 W) (o:Obj):TwS M wr v2 v3 l2 l3 (W.alloc o):=⟨h.1.alloc h.2.1 _,by rw [World.size_alloc];exact Nat.le_succ_of_le h.2.1,h.2.2.1.alloc _,h.2.2.2.1.alloc _,h.2.2.2.2⟩
theorem TwS.app2 (h:TwS M wr v2 v3 l2 l3 W) (ho:W'.ownsRow M 3 1 v' (l2.length+1) (l2++[x])) (hg:W.grownBy W' v2.ownBlock) (hvb:v'.ownBlock=v2.ownBlock∨v'.ownBlock=some W.heap.size):TwS M wr v' v3 (l2++[x]) l3 W':=by
 obtain⟨h1,h2,h3,h4,h5⟩:=h
 refine⟨h1.grown hg h2 (fun k hk=>(h3.lt k hk).1),Nat.le_trans h2 hg.size,by rw [List.length_append];exact ho,h4.kept hg (own_apart h5),?_⟩
 rcases hvb with e | e
 ·rw [e];exact h5
 ·refine .inr (fun e2=>?_)
  rw [e] at e2
  have:=(h4.lt _ e2.symm).2
  omega
theorem TwS.app3 (h:TwS M wr v2 v3 l2 l3 W) (ho:W'.ownsRow M 3 1 v' (l3.length+1) (l3++[x])) (hg:W.grownBy W' v3.ownBlock) (hvb:v'.ownBlock=v3.ownBlock∨v'.ownBlock=some W.heap.size):TwS M wr v2 v' l2 (l3++[x]) W':=by
 obtain⟨h1,h2,h3,h4,h5⟩:=h
 refine⟨h1.grown hg h2 (fun k hk=>(h4.lt k hk).1),Nat.le_trans h2 hg.size,h3.kept hg h5,by rw [List.length_append];exact ho,?_⟩
 rcases hvb with e | e
 ·rw [e];exact h5
 ·refine .inr (fun e2=>?_)
  rw [e] at e2
  have:=(h3.lt _ e2).2
  omega
theorem one_news {g t:Nat} (h:Boxed W g t x):∀(j:Nat) (u:Value),[x][j]? = some u→W.cell? ((⟨g,0,none⟩:Addr).add j)=some u:=fun j u hu=>by
 cases j with
 | zero =>
   have:x=u:=by simpa using hu
   subst this
   exact h.cell
 | succ j=>simp at hu
theorem box_app {g t:Nat} (hq:Boxed W g t x) (hb:∀k,v2.ownBlock=some k→k≠g) (hg:W.grownBy W' v2.ownBlock):Boxed W' g t x:=(hg.block g (Array.getElem?_eq_some_iff.1 hq).1 (fun e=>hb g e.symm rfl)).trans hq
end
def strV (pre:List (Nat × ByteArray)):List Value:=pre.map fun p=>.string p.2
def sortV (pre:List (Nat × ByteArray)):List Value:=pre.map fun p=>.int .i64 (wsortI p.2)
def SgI (s:ByteArray) (w:World) (n:Nat) (pre:List (PieceOf s)) (W:World):Prop :=
 ∃v u,Boxed W n 182 v∧Boxed W (n+1) 56 u∧W.ownsRow (n+3) 9 1 v pre.length (strV (pre.map (·.1)))∧W.ownsRow n 3 1 u pre.length (sortV (pre.map (·.1))) ∧
   Boxed W (n+1+1) 9 (.string s)∧Below n w W∧n+3≤W.heap.size
theorem row_keptC {X Y:World} {base e z k:Nat} {v:Value} {xs:List Value} (h:X.ownsRow base e z v k xs) {row:Option Nat} (hg:X.grownBy Y row) (hrow:∀k,row=some k→∃o,X.heap[k]? = some o∧o.isCells=false):Y.ownsRow base e z v k xs:=by
 refine World.ownsRow.kept h hg ?_
 rcases h.2 with ⟨h,_⟩ | ⟨g,cap,cur,h,_,hgb,_⟩
 ·rw [h];exact .inl rfl
 ·rw [h]
  refine .inr fun e'=>?_
  obtain⟨o,ho,hc⟩:=hrow _ e'.symm
  rw [hgb] at ho
  cases ho;cases hc
theorem row_read {X:World} {base e k:Nat} {v:Value} {xs:List Value} (h:X.ownsRow base e 1 v k xs):∃a cap,v=.slice a k cap∧(0<k→∃G,a=some ⟨G,0,none⟩∧base≤G∧G<X.heap.size∧∃cur:Array Value,X.heap[G]? = some (.cells cur e (0,0))∧∀(i:Nat) (y:Value),xs[i]? = some y→cur[i]? = some y):=by
 rcases h.2 with ⟨h1,h0⟩ | ⟨g,cap',cur,h1,hb,hg,hc,hm,hs,ht⟩
 ·subst h0
  exact⟨none,0,h1,fun h=>absurd h (Nat.lt_irrefl _)⟩
 ·refine⟨_,_,h1,fun _=>⟨g,rfl,hb,(Array.getElem?_eq_some_iff.1 hg).1,cur,hg,fun i y hy=>?_⟩⟩
  rw [←ht,List.getElem?_take] at hy
  split at hy
  ·simpa using hy
  ·cases hy
def SgR (n:Nat) (cs:List ByteArray) (a1 a2:Option Addr) (c1 c2:Nat) (W:World):Prop :=
 Boxed W n 182 (.slice a1 cs.length c1)∧Boxed W (n+1) 56 (.slice a2 cs.length c2) ∧
  (0<cs.length→∃(G1 G2:Nat) (cur1 cur2:Array Value),a1=some ⟨G1,0,none⟩∧a2=some ⟨G2,0,none⟩∧W.heap[G1]? = some (.cells cur1 9 (0,0))∧W.heap[G2]? = some (.cells cur2 3 (0,0))∧∀i,i<cs.length→cur1[i]? = some (.string (clI cs i))∧cur2[i]? = some (.int .i64 (soI cs i)))
theorem SgR.below {n:Nat} {cs:List ByteArray} {a1 a2:Option Addr} {c1 c2:Nat} {W W':World} (h:SgR n cs a1 a2 c1 c2 W) (hb:Below W.heap.size W W'):SgR n cs a1 a2 c1 c2 W':=by
 obtain⟨h1,h2,h3⟩:=h
 have hbl:∀{b:Nat} {o:Obj},W.heap[b]? = some o→W'.heap[b]? = some o:=fun h=>(hb.block _ (Array.getElem?_eq_some_iff.1 h).1).trans h
 refine⟨hbl h1,hbl h2,fun h0=>?_⟩
 obtain⟨G1,G2,cur1,cur2,q1,q2,q3,q4,q5⟩:=h3 h0
 exact⟨G1,G2,cur1,cur2,q1,q2,hbl q3,hbl q4,q5⟩
theorem sgR_of {s:ByteArray} {w:World} {n:Nat} {xs:List (PieceOf s)} {W:World} (h:SgI s w n xs W) (hx:xs.map (·.1)=piecesI s):∃a1 a2 c1 c2,SgR n (clsI s) a1 a2 c1 c2 W:=by
 obtain⟨v,u,r1,r2,r3,r4,r5,r6,r7⟩:=h
 have hl:xs.length=(clsI s).length:=by unfold clsI;rw [List.length_map,←hx,List.length_map]
 rw [hl,hx] at r3 r4
 obtain⟨a1,c1,rfl,q1⟩:=row_read r3
 obtain⟨a2,c2,rfl,q2⟩:=row_read r4
 refine⟨a1,a2,c1,c2,r1,r2,fun h0=>?_⟩
 obtain⟨G1,e1,_,_,cur1,b1,f1⟩:=q1 h0
 obtain⟨G2,e2,_,_,cur2,b2,f2⟩:=q2 h0
 refine⟨G1,G2,cur1,cur2,e1,e2,b1,b2,fun i hi=>⟨f1 i _ ?_,f2 i _ ?_⟩⟩
 ·have hi':i<(piecesI s).length:=by unfold clsI at hi;rwa [List.length_map] at hi
  unfold strV clI clsI
  rw [List.getElem?_map,List.getElem?_eq_getElem hi']
  simp [List.getD_eq_getElem?_getD,List.getElem?_map,List.getElem?_eq_getElem hi']
 ·have hi':i<(piecesI s).length:=by unfold clsI at hi;rwa [List.length_map] at hi
  unfold sortV soI clI clsI
  rw [List.getElem?_map,List.getElem?_eq_getElem hi']
  simp [List.getD_eq_getElem?_getD,List.getElem?_map,List.getElem?_eq_getElem hi']
set_option maxRecDepth 100000 in
set_option maxHeartbeats 1000000 in
theorem segs_any (s:ByteArray) (w:World) (hT:T8 w) (hs:s.size≤2097152) :
 Calls Tryz.prog 97 #[.string s] w fun e w'=>∃a c x,e=.returned (.tuple #[.slice a (wendsI s).length c,x])∧OutAt .i64 3 w' w.heap.size a c ((wendsI s).map fun e:Nat=>(e:Int))∧Below w.heap.size w w':=by
 obtain⟨n,hn⟩:∃n,w.heap.size=n:=⟨_,rfl⟩
 refine (callsIn_wide (n:=4)).1 ?_
 refine callsIn_of_wp_marks Tryz.func97 rfl trivial ?_ rfl
 simp only [Tryz.ntmps97,List.size_toArray,List.length_cons,List.length_nil,Nat.reduceAdd,Nat.reduceSub,Array.replicate_succ,Array.replicate_zero,List.push_toArray,List.append_toArray,List.nil_append,List.cons_append]
 gi_wp2_with (fail)
 refine wpIn_wide.2 (wp_scope_straight ((wpIn_wide (n:=4)).1 ?_))
 gi_wp2_with (fail)
 refine⟨trivial,?_⟩
 refine (callsIn_wide.2 (All_any s _)).mono ?_
 rintro e' W0 ⟨rfl,hW0⟩
 have hI3:(Tryz.prog.info? 3).map (fun i=>(i.zero,i.size,i.bytes))=some (some (.int .i64 0),1,8):=by kernel_rfl
 have hIs:(Tryz.prog.info? 9).map (fun i=>(i.zero,i.size,i.bytes))=some (some (.string ⟨#[]⟩),1,16):=by kernel_rfl
 obtain⟨i3,hi3,hz3,ha3,hb3⟩:=info_parts hI3
 obtain⟨i9,hi9,hz9,ha9,hb9⟩:=info_parts hIs
 have hz:(((w.alloc (Obj.cells #[Value.slice none 0 0] 182)).alloc (Obj.cells #[Value.slice none 0 0] 56)).alloc (Obj.cells #[Value.string s] 9)).heap.size=n+3:=by simp only [World.size_alloc,hn]
 have k1:Boxed W0 n 182 (.slice none 0 0):=by
  rw [hW0]
  refine Eq.trans (Below.heap_alloc _ _ _ ?_) (Eq.trans (Below.heap_alloc _ _ _ ?_) ?_)
  all_goals first | (simp only [World.size_alloc,hn];omega) | (have:=World.alloc_heap_new w (.cells #[.slice none 0 0] 182);rw [hn] at this;exact this)
 have k2:Boxed W0 (n+1) 56 (.slice none 0 0):=by
  rw [hW0]
  refine Eq.trans (Below.heap_alloc _ _ _ ?_) ?_
  all_goals first | (simp only [World.size_alloc,hn];omega) | (have:=World.alloc_heap_new (w.alloc (.cells #[.slice none 0 0] 182)) (.cells #[.slice none 0 0] 56);rw [World.size_alloc,hn] at this;exact this)
 have k3:Boxed W0 (n+1+1) 9 (.string s):=by
  have:=World.alloc_heap_new ((w.alloc (.cells #[.slice none 0 0] 182)).alloc (.cells #[.slice none 0 0] 56)) (.cells #[.string s] 9)
  rw [World.size_alloc,World.size_alloc,hn] at this
  rw [hW0];exact this
 have kb:Below n w W0:=by
  rw [hW0]
  exact (((Below.refl n w).alloc (by omega) _).alloc (by simp only [World.size_alloc];omega) _).alloc (by simp only [World.size_alloc];omega) _
 have kz:W0.heap.size=n+3:=by rw [hW0];exact hz
 have hT0:T8 W0:=hT.below rfl (by rw [hn];exact kb)
 have h3:Tryz.lays197_ren.g 3<n:=by have:=cell_lt (hT.1 0 (by omega));omega
 have h4:Tryz.lays197_ren.g 4<n:=by have:=cell_lt (hT.2 0 (by omega)).1;omega
 unfold itV
 rw [show ((w.alloc (Obj.cells #[Value.slice none 0 0] 182)).alloc (Obj.cells #[Value.slice none 0 0] 56)).alloc (Obj.cells #[Value.string s] 9)=W0 from hW0.symm] at *
 clear hW0
 gi_wp2_with (fail)
 refine wpIn_rangeFunc_ownF (F:=Fence.wide) rfl (by omega) (gf:=54) (lb:=#[.pointer (some ⟨n+1+1,0,none⟩)]) rfl trivial (enters_of Tryz.func54 (by kernel_rfl) rfl)
  (pieces_stops 3 (by omega) (n+1+1) n s (by omega) h3 h4 W0 (by omega) k3.cell hT0) (fun h k=>KpB.trans h k) (kpB_put (w:=W0) (by omega)) (Below.refl _ _) (fun _=>rfl) (SgI s w n) (fun _ _ _=>False) ?hI (fun _ _ _ _ _ hs _ _=>hs) ?h0
  (fun x=>{ tmps:=(#[.string s,undef,.slice none 0 0,.slice none 0 0,.pointer (some ⟨n,0,none⟩),.pointer (some ⟨n+1,0,none⟩),undef,.string x.1.2,undef,undef,undef,undef,undef,undef,undef,.string s,.func (.func 54) #[] #[.pointer (some ⟨n+1+1,0,none⟩)],.int .i64 x.1.1,.string x.1.2,undef,undef,undef,undef,undef,undef,undef,undef,undef,undef,undef,undef,undef,undef,undef,undef,undef,undef,undef,undef,undef,undef,undef,undef,undef,undef,undef,undef,undef,undef,undef,undef,undef,undef,undef,undef,undef,undef,undef,undef,undef,undef,undef,undef,undef,undef,undef,undef,undef,undef,undef,undef,undef,undef,undef,undef,undef,undef,undef,undef,undef,undef,undef,undef,undef,undef,undef,undef,undef,undef,undef,undef,undef,undef,undef,undef,undef,undef,undef,undef,undef,undef,undef,undef,undef,undef,undef,undef,undef,undef,undef,undef,undef,undef,undef,undef,undef,undef,undef,undef,undef,undef,undef,undef,undef,undef,undef,undef,undef,undef,undef,undef,undef,undef,undef,undef,undef,undef,undef,undef,undef,undef,undef,undef,undef,undef,undef,undef,undef,undef,undef,undef,undef,undef]),defers:=[] }) ?assign ?body ?done ?stop
 case hI =>
  rintro pre X Y row ⟨v,u,r1,r2,r3,r4,r5,r6,r7⟩ hg hrow
  have hr:∀k,row=some k→∃o,X.heap[k]? = some o∧o.isCells=false:=fun k e=>(hrow k e).2
  exact⟨v,u,box_kept r1 hg hr,box_kept r2 hg hr,row_keptC r3 hg hr,row_keptC r4 hg hr,box_kept r5 hg hr,r6.grown hg (by have:=r6.size;omega) (fun k e=>by have:=(hrow k e).1;omega),Nat.le_trans r7 hg.size⟩
 case h0=>exact⟨_,_,k1,k2,World.ownsRow_nil _ _ _ _,World.ownsRow_nil _ _ _ _,k3,kb,by omega⟩
 case assign =>
  intro l x W K hK
  gi_wp2_with (fail)
  exact hK
 case body =>
  rintro l pre x W ⟨v,u,r1,r2,r3,r4,r5,r6,r7⟩ hlt
  obtain⟨c,hcc⟩:∃c,x.1.2=c:=⟨_,rfl⟩
  obtain⟨at',hat⟩:∃a,x.1.1=a:=⟨_,rfl⟩
  simp only [hat,hcc]
  have hpl:=pieces_len s
  obtain⟨k,hk⟩:∃k,pre.length=k:=⟨_,rfl⟩
  rw [hk] at r3 r4 hlt
  have hk2:k+1≤2097152:=by omega
  have hc1:=r1.cell
  have HK:=lh hk
  have HC:=lh hcc
  have HTW:=lh (hT.below rfl (by rw [hn];exact r6))
  have HSO:=lh (fun (w':World) (h:T8 w')=>wsort_any c w' h)
  have R5:=lh r5
  clear hk hpl hlt hat hcc hT hT0 k1 k2 k3 kb hz
  gi_upto_region 6 with (gi_at_builtin;refine wpListIn_append_own _ rfl _ _ 182 rfl (n+3) 9 i9 (.string ⟨#[]⟩) 1 16 Tryz.underlying182 hi9 hz9 ha9 hb9 rfl (by decide) _ _ _ rfl (r3.alloc _) ⟨W.heap.size,0,none⟩ 1 1 [.string c] rfl rfl (by exact cell_one_new _ _ _) (by simp [Value.oneCell']) (by unfold maxLen;omega) (by omega) (by simp;omega) ?_;intro v' w1 hown' hgrow _;obtain⟨g',cap',rfl⟩:=ownsRow_succ hown';obtain⟨hv1,hv2,_,hkk2,hb2⟩:=r1.appended (by decide) (ownsRow_low r3 (Nat.le_add_right n 3)) (by omega) (Nat.le_refl _) (ownsRow_low hown' (Nat.le_add_right n 3)) hgrow;have hr2:=hown'.kept (grownBy_setCell' w1 n (.slice (some ⟨g',0,none⟩) (k+1) cap')) (.inr (hv1.not_row (by decide) hown').symm);have hd1:=hv1.cell;have hf1:=hv1.frozen)
  have t2:Boxed (w1.setCell ⟨n,0,none⟩ (.slice (some ⟨g',0,none⟩) (k+1) cap')) (n+1) 56 u:=((r2.alloc _).kept hgrow (r2.not_row (by decide) r3)).other (by omega) _
  have t5:Boxed (w1.setCell ⟨n,0,none⟩ (.slice (some ⟨g',0,none⟩) (k+1) cap')) (n+1+1) 9 (.string s):=((r5.alloc _).kept hgrow (fun e=>by have:=(r3.lt _ e.symm).1;omega)).other (by omega) _
  have t4:(w1.setCell ⟨n,0,none⟩ (.slice (some ⟨g',0,none⟩) (k+1) cap')).ownsRow n 3 1 u k (sortV (pre.map (·.1))):=by
   have h1:=(r4.alloc (.cells #[.string c] 9)).kept hgrow (rows_apart r3 r4 (by decide))
   exact h1.kept (grownBy_setCell' w1 n _) (.inr (hv1.not_row (by decide) h1).symm)
  have t7:n+3≤(w1.setCell ⟨n,0,none⟩ (.slice (some ⟨g',0,none⟩) (k+1) cap')).heap.size:=Nat.le_trans r7 hkk2.size
  generalize w1.setCell ⟨n,0,none⟩ (.slice (some ⟨g',0,none⟩) (k+1) cap')=W5 at hv2 hr2 hkk2 hb2 t2 t5 t4 t7 ⊢
  clear hv1 hd1 hf1 hown' hgrow r1 r2 r3 r4 r5 hc1
  have T0:=HTW.out.keep h3 h4 hb2
  have HSO2:=HSO.out W5.drew (T0.keep h3 h4 (Below.refl _ _).drew)
  have HS2:=lh HSO2
  have c2:=t2.cell
  have V2:=lh hv2
  have R2:=lh hr2
  have KK:=lh hkk2
  have B2:=lh hb2
  have T2:=lh t2
  have T5:=lh t5
  have T4:=lh t4
  have R6:=lh r6
  obtain⟨S,hS1,hS2⟩:∃S:World→Prop,(∀w',S w'→w'.cell? ⟨n+1,0,none⟩=some u)∧(∀w',w'.cell? ⟨n+1,0,none⟩=some u→S w'):=⟨fun w'=>w'.cell? ⟨n+1,0,none⟩=some u,fun _ h=>h,fun _ h=>h⟩
  have kp0:∀p:WIn S,p.w.cell? ⟨n+1,0,none⟩=some u:=fun p=>hS1 _ p.h
  have HS':=lh hS2
  have hne:Nonempty (WIn S):=⟨⟨W5,hS2 _ c2⟩⟩
  clear hS1 hS2 hv2 hr2 hkk2 hb2 t2 t5 t4 HSO2 T0 HSO HTW r6
  refine wpIn_region_segl S [2,0,0] (by kernel_rfl) (by kernel_rfl) (fun _ _ _ _ h=>h) (fun _ _ h=>h) (HS'.out _ c2) ?_
  simp only [segH,nopLast,nop,lastOf,List.take_succ_cons,List.take_zero,List.drop_succ_cons,List.drop_zero]
  repeat (go_big_quiet_step (fail))
  refine wpQuiet_nil ?_
  intro K hK
  have HKK:=lh hK
  clear hK
  go_wp2_with (go_at_call 121;refine HS2.out.mono ?_;rintro e w6 ⟨rfl,hb6⟩)
  have hz6:=hb6.size
  have hsz6:W5.heap.size≤w6.heap.size:=hz6
  replace hb6:Below W5.heap.size W5 w6:=Below.trans (Below.refl _ _).drew hb6
  refine HKK.out _ _ (HS'.out _ (cell_bl hb6 (by omega) c2)) ?_
  clear HKK
  refine wpQuiet_nil ?_
  intro K hK
  have HKK:=lh hK
  clear hK
  go_wp2_with (fail)
  have hb7:Below w6.heap.size w6 (w6.alloc (.cells #[.int .i64 (wsortI c)] 3)):=(Below.refl _ _).alloc (Nat.le_refl _) _
  refine HKK.out _ _ (HS'.out _ (cell_bl hb7 (by omega) (cell_bl hb6 (by omega) c2))) ?_
  clear HKK
  refine wpQuiet_nil ?_
  intro K hK
  have HKK:=lh hK
  clear hK
  have o6:=row_keptC (row:=none) T4.out ⟨hb6.os,hb6.tape,hb6.output,hb6.size,fun k hk _=>hb6.block k hk⟩ (fun k e=>by cases e)
  have q6:=row_keptC (row:=none) R2.out ⟨hb6.os,hb6.tape,hb6.output,hb6.size,fun k hk _=>hb6.block k hk⟩ (fun k e=>by cases e)
  have O7:=lh (o6.alloc (.cells #[.int .i64 (wsortI c)] 3))
  go_wp2_with (at_builtin;refine wpList_append_own_at _ rfl _ _ 56 rfl n 3 i3 (.int .i64 0) 1 8 Tryz.underlying56 hi3 hz3 ha3 hb3 rfl (by decide) _ k _ rfl O7.out ⟨w6.heap.size,0,none⟩ 1 1 [.int .i64 (wsortI c)] rfl rfl (by exact cell_one_new _ _ _) (by simp [Value.oneCell']) (by unfold maxLen;omega) (by omega) (by simp;omega) ?_;intro v' w8 ho hg _ _)
  obtain⟨g8,cap8,rfl⟩:=ownsRow_succ ho
  obtain⟨Pw,hPw⟩:∃Pw,(w6.alloc (.cells #[.int .i64 (wsortI c)] 3))=Pw:=⟨_,rfl⟩
  replace hg:(w6.alloc (.cells #[.int .i64 (wsortI c)] 3)).grownBy w8 u.ownBlock:=hg
  have q7:=q6.alloc (.cells #[.int .i64 (wsortI c)] 3)
  have o7:=O7.out
  have hb57:Below W5.heap.size W5 (w6.alloc (.cells #[.int .i64 (wsortI c)] 3)):=hb6.trans (hb7.mono hsz6)
  rw [hPw] at hg q7 o7 hb57
  have hbx:∀{b t:Nat} {y:Value},Boxed W5 b t y→Boxed Pw b t y:=fun h=>(hb57.block _ (Array.getElem?_eq_some_iff.1 h).1).trans h
  have V8:=lh (show Boxed w8 n 182 (.slice (some ⟨g',0,none⟩) (k+1) cap') from farS (hbx V2.out) o7 (by decide) hg)
  have T8':=lh (show Boxed w8 (n+1) 56 u from farS (hbx T2.out) o7 (by decide) hg)
  have X8:=lh (show Boxed w8 (n+1+1) 9 (.string s) from farS (hbx T5.out) o7 (by decide) hg)
  have Q8:=lh (q7.kept hg (rows_apart o7 q7 (by decide)))
  have K8:KeepsOthers Pw w8:=KeepsOthers.of_grownBy hg (fun j o hj ho'=>by
   rcases o7.2 with ⟨h1,_⟩ | ⟨g,cap',cur,h1,_,hgb,_⟩
   ·rw [h1] at hj;cases hj
   ·rw [h1] at hj
    cases hj
    rw [hgb] at ho'
    cases ho'
    rfl)
  have K58:=lh ((keeps_below hb57).trans K8)
  have B58:Below n W5 w8:=(hb57.mono (by omega)).grown hg (by have:=hb57.size;omega) (fun k hk=>(o7.lt k hk).1)
  have B58:=lh B58
  have O8:=lh ho
  clear hg q7 o7 hb57 hbx K8 ho q6 o6 hb6 hb7 hPw
  refine HKK.out _ _ (HS'.out _ T8'.out.cell) ?_
  clear HKK
  simp only [Act.put,List.setIfInBounds_toArray,List.set_cons_succ,List.set_cons_zero]
  repeat (go_big_quiet_step (fail))
  refine wpQuiet_nil ?_
  change wpList _ _ _ _ _ _
  have kc8:=T8'.out.cell
  have kf8:=T8'.out.frozen
  clear HS' c2 kp0 hne
  go_wp2_with (fail)
  have hb9:Below n W (w8.setCell ⟨n+1,0,none⟩ (.slice (some ⟨g8,0,none⟩) (k+1) cap8)):=(B2.out.trans B58.out).setCell (p:=⟨n+1,0,none⟩) (Nat.le_succ _) _
  have x9:Boxed (w8.setCell ⟨n+1,0,none⟩ (.slice (some ⟨g8,0,none⟩) (k+1) cap8)) (n+1+1) 9 (.string s):=box_other X8.out (by omega)
  refine⟨(KK.out.trans K58.out).trans (KeepsOthers.setCell _ _ _),⟨hb9,fun y hy=>?_⟩,_,_,box_other V8.out (by omega),set_at (i:=0) T8'.out _,?_,?_,x9,R6.out.trans hb9,?_⟩
  ·have h0:=R5.out.cell
   rw [h0] at hy
   cases hy
   exact x9.cell
  ·rw [List.length_append,HK.out,List.map_append]
   have h1:=Q8.out.kept (grownBy_setCell' w8 (n+1) (.slice (some ⟨g8,0,none⟩) (k+1) cap8)) (.inr (T8'.out.not_row (by decide) Q8.out).symm)
   unfold strV at h1 ⊢
   rw [List.map_append,show List.map (fun p:Nat × ByteArray=>Value.string p.2) (List.map (fun x:PieceOf s=>x.1) [x])=[.string c] by simp [HC.out]]
   exact h1
  ·rw [List.length_append,HK.out,List.map_append]
   have h1:=O8.out.kept (grownBy_setCell' w8 (n+1) (.slice (some ⟨g8,0,none⟩) (k+1) cap8)) (.inr (T8'.out.not_row (by decide) O8.out).symm)
   unfold sortV at h1 ⊢
   rw [List.map_append,show List.map (fun p:Nat × ByteArray=>Value.int .i64 (wsortI p.2)) (List.map (fun x:PieceOf s=>x.1) [x])=[.int .i64 (wsortI c)] by simp [HC.out]]
   exact h1
  ·exact Nat.le_trans t7 (Nat.le_trans K58.out.size (KeepsOthers.setCell _ _ _).size)
 case done =>
  rintro D xs W hD hxs hI hK
  have hb6:=hI
  obtain⟨_,_,_,_,_,_,_,hbW,hzW⟩:=hb6
  obtain⟨a1,a2,c1,c2,hR⟩:=sgR_of hI hxs
  obtain⟨M,hM⟩:∃M,W.heap.size=M:=⟨_,rfl⟩
  obtain⟨cs,hcs⟩:∃cs,clsI s=cs:=⟨_,rfl⟩
  rw [hcs] at hR
  have hml:cs.length≤2097152:=by
   have:=pieces_len s
   have:cs.length=(piecesI s).length:=by rw [←hcs];unfold clsI;rw [List.length_map]
   omega
  have HR:=lh hR
  have HCS:=lh hcs
  have HBW:=lh hbW
  have HKD:=lh hK
  clear hI hR hcs hbW hK hT hT0 k1 k2 k3 kb hz
  gi_wp2_with (fail)
  refine wpIn_label ?_
  gi_wp2_with (fail)
  gi_loopw [2,3,8,9] (fun u2 u3 u8 u9 wr=>∃(i f:Nat) (acc:List (Nat × Nat)),u8=.int .i64 (posI cs i)∧u9=.int .i64 i∧i≤cs.length∧cs.length≤i+f∧segOut cs cs.length 0 0=acc++segOut cs f i (posI cs i) ∧
   wr.ownsRow M 3 1 u2 acc.length (acc.map fun p=>.int .i64 p.1)∧wr.ownsRow M 3 1 u3 acc.length (acc.map fun p=>.int .i64 (soI cs p.2))∧(u2.ownBlock=none∨u2.ownBlock≠u3.ownBlock)∧Below M W wr) (fun _ _ _ u9 _=>cs.length-(intOf u9).toNat)
  case atStart=>exact⟨0,cs.length,[],rfl,rfl,Nat.zero_le _,by omega,rfl,World.ownsRow_nil _ _ _ _,World.ownsRow_nil _ _ _ _,.inl rfl,Below.refl _ _⟩
  case round =>
   obtain⟨i,f,acc,rfl,rfl,hi,hf,hacc,ho1,ho2,hap,hbm⟩:=hrel
   have hRr:=HR.out.below (hM▸hbm)
   by_cases hlt:i<cs.length
   ·obtain⟨G1,G2,cur1,cur2,e1,e2,b1,b2,hcell⟩:=hRr.2.2 (by omega)
    subst e1
    subst e2
    have HRr:=lh hRr
    have hil:(i:Int)<(cs.length:Int):=by omega
    have cb:=hRr.1.cell
    have cc:wr.cell? ⟨G1,i,none⟩=some (.string (clI cs i)):=by simp [World.cell?,b1,(hcell i hlt).1]
    have hps:=posI_succ cs i hlt
    have hpm:=posI_mono cs (cs.length-(i+1)) (i+1) (by omega)
    rw [show i+1+(cs.length-(i+1))=cs.length by omega,←HCS.out,posI_all,HCS.out] at hpm
    have hwp:IntKind.i64.wrap ((posI cs i:Int)+((clI cs i).size:Int))=(posI cs (i+1):Int):=by rw [IntKind.wrap_i64];omega
    have hw1:IntKind.i64.wrap ((i:Int)+1)=((i+1:Nat):Int):=by rw [IntKind.wrap_i64];omega
    have HO1:=lh ho1
    have HO2:=lh ho2
    have HBM:=lh hbm
    have HACC:=lh hacc
    have HAP:=lh hap
    have HPM:=lh hpm
    have HPS:=lh hps
    have HG2:=lh (show G2<M from by
     obtain⟨_,G2',_,_,_,e2',_,b2',_⟩:=HR.out.2.2 (by omega)
     cases e2'
     rw [←hM]
     exact (Array.getElem?_eq_some_iff.1 b2').1)
    clear hRr ho1 ho2 hbm hacc hap hps hcell b1 b2 hpm
    gi_wp2_with (fail)
    gi_loopw [2,3,8,9] (fun a2 a3 u8 u9 wr'=>a2=u2∧a3=u3∧∃(j f':Nat),u8=.int .i64 (posI cs j)∧u9=.int .i64 j∧i+1≤j∧j≤cs.length∧cs.length≤j+f'∧segIn cs i cs.length (i+1) (posI cs (i+1))=segIn cs i f' j (posI cs j)∧Below wr.heap.size wr wr') (fun _ _ _ u9 _=>cs.length-(intOf u9).toNat)
    case atStart=>exact⟨rfl,rfl,i+1,cs.length,rfl,rfl,Nat.le_refl _,by omega,by omega,rfl,Below.refl _ _⟩
    case round =>
     obtain⟨rfl,rfl,j,f',rfl,rfl,hj1,hj2,hjf,hseg,hb'⟩:=hrel
     by_cases hjl:j<cs.length
     ·have hR2:=HRr.out.below hb'
      obtain⟨q,hq⟩:∃q,q+1=j:=⟨j-1,by omega⟩
      obtain⟨G1',G2',cur1',cur2',e1,e2,b1,b2,hcell⟩:=hR2.2.2 (by omega)
      cases e1
      cases e2
      have HQ:=lh hq
      have d1:=hR2.1.cell
      have d2:=hR2.2.1.cell
      have kq:wr.cell? ⟨G2,q,none⟩=some (.int .i64 (soI cs q)):=by simp [World.cell?,b2,(hcell q (by omega)).2]
      have kj:wr.cell? ⟨G2,j,none⟩=some (.int .i64 (soI cs j)):=by simp [World.cell?,b2,(hcell j hjl).2]
      have ki:wr.cell? ⟨G2,i,none⟩=some (.int .i64 (soI cs i)):=by simp [World.cell?,b2,(hcell i (by omega)).2]
      have kc:wr.cell? ⟨G1,j,none⟩=some (.string (clI cs j)):=by simp [World.cell?,b1,(hcell j hjl).1]
      have hwq:IntKind.i64.wrap ((j:Int)-1)=(q:Int):=by rw [IntKind.wrap_i64];omega
      have hqm:(q:Int)<(cs.length:Int):=by omega
      have hjm:(j:Int)<(cs.length:Int):=by omega
      have him:(i:Int)<(cs.length:Int):=by omega
      have HD2:=lh d2
      have HKI:=lh ki
      have HCELL:=lh (fun (k:Nat) (hk:k<cs.length)=>(by simp [World.cell?,b2,(hcell k hk).2]:wr.cell? ⟨G2,k,none⟩=some (.int .i64 (soI cs k))))
      have HR2:=lh hR2
      have HSEG:=lh hseg
      have HBB:=lh hb'
      clear hR2 hseg hb' hcell b1 b2 cc cb hw1 hwp
      gi_upto_region 15 with (fail)
      refine wpIn_wide.2 ?_
      go_quiet (fail)
      have HQQ:=lh (show j-1=q by omega)
      have hjj:(j:Int)+1<9223372036854775807:=by omega
      have hwj:IntKind.i64.wrap ((j:Int)+1)=((j+1:Nat):Int):=by rw [IntKind.wrap_i64];omega
      have HPJ:=lh (posI_succ cs j hjl)
      gi_upto_region 16 with (fail)
      refine wpIn_wide.2 ?_
      obtain⟨p,hp⟩:∃p,((soI cs i==1)&&(soI cs j==1))=p:=⟨_,rfl⟩
      have HP:=lh hp
      clear hp
      go_cut [13] from 57 to 65 (fun v wx=>v=.bool p∧∃k,wx=wr.drewN k)
      case first =>
       obtain⟨x1,hx1⟩:∃x,soI cs i=x:=⟨_,rfl⟩
       have hpe:=HP.out
       rw [hx1] at ki hpe
       have HPE:=lh hpe
       clear hx1 hpe HP
       by_cases h1:x1=1
       ·subst h1
        go_wp2_with (fail)
        go_meet
        case rel=>exact⟨by rw [←HPE.out];rfl,_,rfl⟩
       ·have h1d:(x1==1)=false:=beq_eq_false_iff_ne.2 h1
        have HN:=lh h1
        clear h1
        go_wp2_with (fail)
        go_meet
        case rel=>exact⟨by rw [←HPE.out,beq_eq_false_iff_ne.2 HN.out,Bool.false_and],_,rfl⟩
      case rest =>
       obtain⟨rfl,k1,rfl⟩:=hcut
       gi_upto_region 17 with (fail)
       refine wpIn_wide.2 ?_
       obtain⟨p2,hp2⟩:∃p2,(decide (3≤soI cs q)||decide (i<q))=p2:=⟨_,rfl⟩
       have HP2:=lh hp2
       clear hp2
       go_cut [73] from 66 to 73 (fun v wx=>v=.bool p2∧∃k,wx=wr.drewN k)
       case first =>
        by_cases h1:3≤soI cs q
        ·have h1d:decide (3≤soI cs q)=true:=decide_eq_true h1
         have HN:=lh h1
         clear h1
         go_wp2_with (fail)
         go_meet
         case rel=>exact⟨by rw [←HP2.out,decide_eq_true HN.out,Bool.true_or],_,rfl⟩
        ·have h1d:decide (3≤soI cs q)=false:=decide_eq_false h1
         have HN:=lh h1d
         clear h1
         by_cases h2:(i:Int)<(q:Int)
         ·have h2d:decide ((i:Int)<(q:Int))=true:=decide_eq_true h2
          have HI:Hid (decide (i<q)=true):=lh (decide_eq_true (by omega))
          clear h2
          go_wp2_with (fail)
          go_meet
          case rel=>exact⟨by rw [←HP2.out,HI.out,Bool.or_true],_,rfl⟩
         ·have h2d:decide ((i:Int)<(q:Int))=false:=decide_eq_false h2
          have HI:Hid (decide (i<q)=false):=lh (decide_eq_false (by omega))
          clear h2
          go_wp2_with (fail)
          go_meet
          case rel=>exact⟨by rw [←HP2.out,HI.out,HN.out,Bool.or_false],_,rfl⟩
       case rest =>
        obtain⟨rfl,k2,rfl⟩:=hcut
        gi_upto_if 73 with (fail)
        refine wpIn_wide.2 ?_
        go_cut [13] from 57 to 119 (fun v wx=>v=.bool (joinB cs i j)∧∃k,wx=wr.drewN k)
        case first =>
         have HJB:Hid (joinB cs i j=(p||(p2&&(decide (3≤soI cs i)&&(decide (3≤soI cs j)||(decide (soI cs j<3)&&decide (3≤soI cs q)&&decide (j+1<cs.length)&&(betweenI (clI cs j)==soI cs q)&&(soI cs (j+1)==soI cs q))))))):=lh (by
          unfold joinB
          rw [HQQ.out,←HP.out,←HP2.out]
          rfl)
         clear HP HP2
         cases p2 with
         | false =>
           go_wp2_with (fail)
           go_meet
           case rel=>exact⟨by rw [HJB.out,Bool.false_and,Bool.or_false],_,rfl⟩
         | true =>
           rw [Bool.true_and] at HJB
           obtain⟨sg,hsg⟩:∃sg,(decide (soI cs j<3)&&decide (3≤soI cs q)&&decide (j+1<cs.length)&&(betweenI (clI cs j)==soI cs q)&&(soI cs (j+1)==soI cs q))=sg:=⟨_,rfl⟩
           rw [hsg] at HJB
           have HSG:=lh hsg
           clear hsg
           go_upto_region 18 with (fail)
           go_cut [14] from 74 to 104 (fun v wx=>v=.bool sg∧∃k,wx=wr.drewN k)
           case first =>
            by_cases h1:soI cs j<3
            ·have h1d:decide (soI cs j<3)=true:=decide_eq_true h1
             have H1:=lh h1d
             clear h1
             by_cases h2:3≤soI cs q
             ·have h2d:decide (3≤soI cs q)=true:=decide_eq_true h2
              have H2:=lh h2d
              clear h2
              by_cases h3:j+1<cs.length
              ·have h3d:decide (((j+1:Nat):Int)<(cs.length:Int))=true:=decide_eq_true (by omega)
               have h3e:decide ((j:Int)+1<(cs.length:Int))=true:=decide_eq_true (by omega)
               have H3:Hid (decide (j+1<cs.length)=true):=lh (decide_eq_true h3)
               have kj1:wr.cell? ⟨G2,j+1,none⟩=some (.int .i64 (soI cs (j+1))):=HCELL.out (j+1) h3
               have hj3:(j:Int)+1<(cs.length:Int):=by omega
               have hj0:(0:Int)≤(j:Int)+1:=by omega
               have htj:((j:Int)+1).toNat=j+1:=by omega
               obtain⟨bt,hbt⟩:∃b,betweenI (clI cs j)=b:=⟨_,rfl⟩
               have HBT:=lh (fun W=>between_any (clI cs j) W)
               rw [hbt] at HSG HBT
               obtain⟨sj,hsj⟩:∃b,soI cs (j+1)=b:=⟨_,rfl⟩
               rw [hsj] at HSG kj1
               obtain⟨sq,hsq⟩:∃b,soI cs q=b:=⟨_,rfl⟩
               rw [hsq] at HSG
               simp only [hsq] at *
               clear hbt hsj hsq h3
               have hwj1:IntKind.i64.wrap ((j:Int)+1)=(j:Int)+1:=by rw [IntKind.wrap_i64];omega
               by_cases h4:bt=sq
               ·have h4d:(bt==sq)=true:=beq_iff_eq.2 h4
                have H4:=lh h4d
                clear h4
                go_wp2_with (go_at_call 122;refine (HBT.out _).mono ?_;rintro e w9 ⟨rfl,rfl⟩)
                go_meet
                case rel=>exact⟨by rw [←HSG.out,H1.out,H2.out,H3.out,H4.out];simp,_,rfl⟩
               ·have h4d:(bt==sq)=false:=beq_eq_false_iff_ne.2 h4
                have H4:=lh h4d
                clear h4
                go_wp2_with (go_at_call 122;refine (HBT.out _).mono ?_;rintro e w9 ⟨rfl,rfl⟩)
                go_meet
                case rel=>exact⟨by rw [←HSG.out,H4.out];simp,_,rfl⟩
              ·have h3d:decide (((j+1:Nat):Int)<(cs.length:Int))=false:=decide_eq_false (by omega)
               have h3e:decide ((j:Int)+1<(cs.length:Int))=false:=decide_eq_false (by omega)
               have H3:Hid (decide (j+1<cs.length)=false):=lh (decide_eq_false h3)
               clear h3
               go_wp2_with (fail)
               go_meet
               case rel=>exact⟨by rw [←HSG.out,H3.out];simp,_,rfl⟩
             ·have h2d:decide (3≤soI cs q)=false:=decide_eq_false h2
              have H2:=lh h2d
              clear h2
              go_wp2_with (fail)
              go_meet
              case rel=>exact⟨by rw [←HSG.out,H2.out];simp,_,rfl⟩
            ·have h1d:decide (soI cs j<3)=false:=decide_eq_false h1
             have H1:=lh h1d
             clear h1
             go_wp2_with (fail)
             go_meet
             case rel=>exact⟨by rw [←HSG.out,H1.out];simp,_,rfl⟩
           case rest =>
            obtain⟨rfl,k4,rfl⟩:=hcut
            cases p with
            | true =>
              go_wp2_with (fail)
              go_meet
              case rel=>exact⟨by rw [HJB.out,Bool.true_or],_,rfl⟩
            | false =>
              rw [Bool.false_or] at HJB
              by_cases h1:3≤soI cs i
              ·have h1d:decide (3≤soI cs i)=true:=decide_eq_true h1
               have H1:=lh h1d
               clear h1
               by_cases h2:3≤soI cs j
               ·have h2d:decide (3≤soI cs j)=true:=decide_eq_true h2
                have H2:=lh h2d
                clear h2
                go_wp2_with (fail)
                go_meet
                case rel=>exact⟨by rw [HJB.out,H1.out,H2.out];simp,_,rfl⟩
               ·have h2d:decide (3≤soI cs j)=false:=decide_eq_false h2
                have H2:=lh h2d
                clear h2
                go_wp2_with (fail)
                go_meet
                case rel=>exact⟨by rw [HJB.out,H1.out,H2.out];simp,_,rfl⟩
              ·have h1d:decide (3≤soI cs i)=false:=decide_eq_false h1
               have H1:=lh h1d
               clear h1
               go_wp2_with (fail)
               go_meet
               case rel=>exact⟨by rw [HJB.out,H1.out];simp,_,rfl⟩
        case rest =>
         obtain⟨rfl,k3,rfl⟩:=hcut
         obtain⟨jb,hjb⟩:∃jb,joinB cs i j=jb:=⟨_,rfl⟩
         rw [hjb]
         have HJ:=lh hjb
         clear hjb HP HP2
         cases jb with
         | true =>
           have hwp2:IntKind.i64.wrap ((posI cs j:Int)+((clI cs j).size:Int))=(posI cs (j+1):Int):=by
            have h1:=HPJ.out
            have h2:=posI_mono cs (cs.length-(j+1)) (j+1) (by omega)
            rw [show j+1+(cs.length-(j+1))=cs.length by omega,←HCS.out,posI_all,HCS.out] at h2
            rw [IntKind.wrap_i64];omega
           gi_wp2_with (fail)
           go_roundw
           case rel =>
            obtain⟨f'',rfl⟩:∃g,f'=g+1:=⟨f'-1,by omega⟩
            exact⟨rfl,rfl,j+1,f'',rfl,by go_num,by omega,by omega,by omega,by rw [HSEG.out,segIn,if_pos ⟨hjl,HJ.out⟩,←HPJ.out],bl_drewN HBB.out _⟩
           case measure=>simp [intOf];omega
         | false =>
           have q1:=row_keptC (row:=none) HO1.out ⟨HBB.out.os,HBB.out.tape,HBB.out.output,HBB.out.size,fun k hk _=>HBB.out.block k hk⟩ (fun k e=>by cases e)
           have q2:=row_keptC (row:=none) HO2.out ⟨HBB.out.os,HBB.out.tape,HBB.out.output,HBB.out.size,fun k hk _=>HBB.out.block k hk⟩ (fun k e=>by cases e)
           have hMo:=HBM.out.size
           have qb:Below M W wr:=HBM.out.trans (HBB.out.mono (by omega))
           have hMr:M≤wr.heap.size:=by have:=qb.size;omega
           have hbX:Below wr.heap.size wr (wr.drewN k3):=bl_drewN (Below.refl _ _) k3
           have hgX:wr.grownBy (wr.drewN k3) none:=⟨hbX.os,hbX.tape,hbX.output,hbX.size,fun k hk _=>hbX.block k hk⟩
           replace q1:=row_keptC (row:=none) q1 hgX (fun k e=>by cases e)
           replace q2:=row_keptC (row:=none) q2 hgX (fun k e=>by cases e)
           have hal:acc.length≤2097152:=by
            have h1:=congrArg List.length HACC.out
            have h2:=segOut_len cs cs.length 0 0
            rw [List.length_append] at h1
            omega
           have hsg:segIn cs i cs.length (i+1) (posI cs (i+1))=(j,posI cs j):=by
            rw [HSEG.out]
            cases f' with | zero=>rfl | succ g=>rw [segIn,if_neg (fun h=>by rw [HJ.out] at h;exact absurd h.2 (by decide))]
           have hso:segOut cs f i (posI cs i)=(posI cs j,i)::segOut cs (f-1) j (posI cs j):=by
            obtain⟨g,rfl⟩:∃g,f=g+1:=⟨f-1,by omega⟩
            rw [segOut,if_pos hlt,←HPS.out,hsg]
            rfl
           have HSO:=lh hso
           clear hsg hso
           gi_upto_region 21 with (fail)
           refine wpIn_wide.2 ?_
           generalize wr.drewN k3=X at hbX q1 q2 ⊢
           clear hgX
           have hsX:=hbX.size
           have hbMX:Below M wr X:=hbX.mono hMr
           obtain⟨S,hS1,hS2⟩:∃S:World→Prop,(∀w',S w'→Below M wr w')∧(∀w',Below M wr w'→S w'):=⟨fun w'=>Below M wr w',fun _ h=>h,fun _ h=>h⟩
           have hG2M:G2<M:=HG2.out
           have hnM:n+1<M:=by omega
           have kp0:∀p:WIn S,p.w.cell? ⟨n+1,0,none⟩=some (.slice (some ⟨G2,0,none⟩) cs.length c2):=fun p=>((hS1 _ p.h).cell (p:=⟨n+1,0,none⟩) hnM).trans HD2.out
           have kp1:∀p:WIn S,p.w.cell? ⟨G2,i,none⟩=some (.int .i64 (soI cs i)):=fun p=>((hS1 _ p.h).cell (p:=⟨G2,i,none⟩) hG2M).trans HKI.out
           have HSi:=lh hS2
           have hne:Nonempty (WIn S):=⟨⟨wr,hS2 _ (Below.refl _ _)⟩⟩
           have HQB:=lh qb
           have himI:(i:Int)<(cs.length:Int):=by omega
           have T0:TwS M wr u2 u3 (acc.map fun p=>Value.int .i64 p.1) (acc.map fun p=>Value.int .i64 (soI cs p.2)) X.drew:=⟨hbMX.drew,by show M≤X.heap.size;omega,by rw [List.length_map];exact q1,by rw [List.length_map];exact q2,HAP.out⟩
           clear hS1 hS2 q1 q2 qb hbX hbMX
           refine wp_region_T S (by kernel_rfl) ?_
           generalize X.drew=X0 at T0 ⊢
           have hu2:∀k,u2.ownBlock=some k→k<X0.heap.size:=fun k hk=>(T0.2.2.1.lt k hk).2
           refine any_go [0,1,4,5,6,7,8] [2,9] (fuel:=5) noPanic_hQ (by kernel_rfl) (HSi.out _ T0.1) ?_
           simp only [opsAt,List.filterMap_cons,List.filterMap_nil,List.getElem?_toArray,List.getElem?_cons_zero,List.getElem?_cons_succ]
           show wpQuiet _ _ _ _ [_,_,_,_,_,_,_] _
           repeat (go_big_quiet_step (fail))
           refine wpQuiet_nil ?_
           intro k hk
           rcases List.mem_cons.1 hk with rfl | hk
           ·intro K hK
            have HKK:=lh hK
            clear hK
            simp only [List.filterMap_cons,List.filterMap_nil,List.getElem?_toArray,List.getElem?_cons_zero,List.getElem?_cons_succ]
            show wpList _ _ _ [_] _ _
            go_wp2_with (fail)
            have T1:=T0.alloc (.cells #[.int .i64 (posI cs j)] 3)
            have BP:=Boxed.new X0 3 (.int .i64 (posI cs j))
            have hs1:X0.heap.size≤X0.heap.size:=Nat.le_refl _
            have hyz1:X0.heap.size≤(X0.alloc (.cells #[.int .i64 (posI cs j)] 3)).heap.size:=by rw [World.size_alloc];omega
            refine HKK.out _ _ (HSi.out _ T1.1) ?_
            clear HKK
            obtain⟨gp,hgp⟩:∃g,X0.heap.size=g:=⟨_,rfl⟩
            generalize X0.alloc (.cells #[.int .i64 (posI cs j)] 3)=Y1 at T1 BP hyz1 ⊢
            have hgpX:X0.heap.size≤gp:=by omega
            rw [hgp] at BP ⊢
            refine any_go [] [3,9] (fuel:=4) noPanic_hQ (by kernel_rfl) (HSi.out _ T1.1) ?_
            simp only [opsAt,List.filterMap_cons,List.filterMap_nil,List.getElem?_toArray,List.getElem?_cons_zero,List.getElem?_cons_succ]
            show wpQuiet _ _ _ _ [] _
            refine wpQuiet_nil ?_
            intro k hk
            rcases List.mem_cons.1 hk with rfl | hk
            ·intro K hK
             have HKK:=lh hK
             clear hK
             simp only [List.filterMap_cons,List.filterMap_nil,List.getElem?_toArray,List.getElem?_cons_zero,List.getElem?_cons_succ]
             show wpList _ _ _ [_] _ _
             refine wpList_append_own_at _ rfl _ _ 56 rfl M 3 i3 (.int .i64 0) 1 8 Tryz.underlying56 hi3 hz3 ha3 hb3 rfl (by decide) _ _ _ rfl T1.2.2.1 ⟨gp,0,none⟩ 1 1 [.int .i64 (posI cs j)] rfl rfl (one_news BP) (by simp [Value.oneCell']) (by unfold maxLen;rw [List.length_map];omega) (by rw [List.length_map];omega) T1.2.1 ?_
             intro v2 Y2 ho2 hg2 _ hvb2
             have T2:=T1.app2 ho2 hg2 hvb2
             have hyz2:X0.heap.size≤Y2.heap.size:=Nat.le_trans hyz1 hg2.size
             refine HKK.out _ _ (HSi.out _ T2.1) ?_
             clear HKK ho2 hg2 hvb2
             simp only [Act.put,List.setIfInBounds_toArray,List.set_cons_succ,List.set_cons_zero]
             refine any_go [] [9] (fuel:=3) noPanic_hQ (by kernel_rfl) (HSi.out _ T2.1) ?_
             simp only [opsAt,List.filterMap_cons,List.filterMap_nil,List.getElem?_toArray,List.getElem?_cons_zero,List.getElem?_cons_succ]
             show wpQuiet _ _ _ _ [] _
             refine wpQuiet_nil ?_
             intro k hk
             obtain rfl:=List.mem_singleton.1 hk
             intro K hK
             have HKK:=lh hK
             clear hK
             simp only [List.filterMap_cons,List.filterMap_nil,List.getElem?_toArray,List.getElem?_cons_zero,List.getElem?_cons_succ]
             show wpList _ _ _ [_] _ _
             go_wp2_with (fail)
             have T3:=T2.alloc (.cells #[.int .i64 (soI cs i)] 3)
             have BQ:=Boxed.new Y2 3 (.int .i64 (soI cs i))
             have hs3:X0.heap.size≤Y2.heap.size:=hyz2
             have hyz3:X0.heap.size≤(Y2.alloc (.cells #[.int .i64 (soI cs i)] 3)).heap.size:=by rw [World.size_alloc];omega
             refine HKK.out _ _ (HSi.out _ T3.1) ?_
             clear HKK
             obtain⟨gq,hgq⟩:∃g,Y2.heap.size=g:=⟨_,rfl⟩
             generalize Y2.alloc (.cells #[.int .i64 (soI cs i)] 3)=Y3 at T3 BQ hyz3 ⊢
             have hgqX:X0.heap.size≤gq:=by omega
             rw [hgq] at BQ ⊢
             refine any_go [] [10] (fuel:=2) noPanic_hQ (by kernel_rfl) (HSi.out _ T3.1) ?_
             simp only [opsAt,List.filterMap_cons,List.filterMap_nil,List.getElem?_toArray,List.getElem?_cons_zero,List.getElem?_cons_succ]
             show wpQuiet _ _ _ _ [] _
             refine wpQuiet_nil ?_
             intro k hk
             obtain rfl:=List.mem_singleton.1 hk
             intro K hK
             have HKK:=lh hK
             clear hK
             simp only [List.filterMap_cons,List.filterMap_nil,List.getElem?_toArray,List.getElem?_cons_zero,List.getElem?_cons_succ]
             show wpList _ _ _ [_] _ _
             refine wpList_append_own_at _ rfl _ _ 56 rfl M 3 i3 (.int .i64 0) 1 8 Tryz.underlying56 hi3 hz3 ha3 hb3 rfl (by decide) _ _ _ rfl T3.2.2.2.1 ⟨gq,0,none⟩ 1 1 [.int .i64 (soI cs i)] rfl rfl (one_news BQ) (by simp [Value.oneCell']) (by unfold maxLen;rw [List.length_map];omega) (by rw [List.length_map];omega) T3.2.1 ?_
             intro v3 Y4 ho4 hg4 _ hvb4
             have T4:=T3.app3 ho4 hg4 hvb4
             refine HKK.out _ _ (HSi.out _ T4.1) ?_
             clear HKK ho4 hg4 hvb4
             simp only [Act.put,List.setIfInBounds_toArray,List.set_cons_succ,List.set_cons_zero]
             refine any_fin [11,12] noPanic_hQ (by kernel_rfl) (HSi.out _ T4.1) ?_
             simp only [opsAt,List.filterMap_cons,List.filterMap_nil,List.getElem?_toArray,List.getElem?_cons_zero,List.getElem?_cons_succ]
             show wpQuiet _ _ _ _ [_,_] _
             repeat (go_big_quiet_step (fail))
             refine wpQuiet_nil ?_
             have TT:=lh T4
             have HB4:=lh (HQB.out.trans T4.1)
             simp only [NoPanic]
             gi_wp2_with (fail)
             go_roundw
             case rel=>exact⟨j,f-1,acc++[(posI cs j,i)],rfl,rfl,hj2,by omega,by rw [HACC.out,HSO.out,List.append_assoc];rfl,by have h:=TT.out.2.2.1;rw [List.length_append,List.length_map] at h;rw [List.length_append,List.map_append];exact h,by have h:=TT.out.2.2.2.1;rw [List.length_append,List.length_map] at h;rw [List.length_append,List.map_append];exact h,TT.out.2.2.2.2,HB4.out⟩
             case measure=>simp [intOf];omega
            ·obtain rfl:=List.mem_singleton.1 hk
             intro K hK
             have HKK:=lh hK
             clear hK
             simp only [List.filterMap_cons,List.filterMap_nil,List.getElem?_toArray,List.getElem?_cons_zero,List.getElem?_cons_succ]
             show wpList _ _ _ [_] _ _
             go_wp2_with (fail)
             have T2:=T1.alloc (.cells #[.int .i64 (soI cs i)] 3)
             have BQ:=Boxed.new Y1 3 (.int .i64 (soI cs i))
             replace BP:=BP.alloc (.cells #[.int .i64 (soI cs i)] 3)
             have hs2:X0.heap.size≤Y1.heap.size:=hyz1
             have hyz2:X0.heap.size≤(Y1.alloc (.cells #[.int .i64 (soI cs i)] 3)).heap.size:=by rw [World.size_alloc];omega
             refine HKK.out _ _ (HSi.out _ T2.1) ?_
             clear HKK
             obtain⟨gq,hgq⟩:∃g,Y1.heap.size=g:=⟨_,rfl⟩
             generalize Y1.alloc (.cells #[.int .i64 (soI cs i)] 3)=Y2 at T2 BQ BP hyz2 ⊢
             have hgqX:X0.heap.size≤gq:=by omega
             rw [hgq] at BQ ⊢
             refine any_go [] [3] (fuel:=3) noPanic_hQ (by kernel_rfl) (HSi.out _ T2.1) ?_
             simp only [opsAt,List.filterMap_cons,List.filterMap_nil,List.getElem?_toArray,List.getElem?_cons_zero,List.getElem?_cons_succ]
             show wpQuiet _ _ _ _ [] _
             refine wpQuiet_nil ?_
             intro k hk
             obtain rfl:=List.mem_singleton.1 hk
             intro K hK
             have HKK:=lh hK
             clear hK
             simp only [List.filterMap_cons,List.filterMap_nil,List.getElem?_toArray,List.getElem?_cons_zero,List.getElem?_cons_succ]
             show wpList _ _ _ [_] _ _
             refine wpList_append_own_at _ rfl _ _ 56 rfl M 3 i3 (.int .i64 0) 1 8 Tryz.underlying56 hi3 hz3 ha3 hb3 rfl (by decide) _ _ _ rfl T2.2.2.1 ⟨gp,0,none⟩ 1 1 [.int .i64 (posI cs j)] rfl rfl (one_news BP) (by simp [Value.oneCell']) (by unfold maxLen;rw [List.length_map];omega) (by rw [List.length_map];omega) T2.2.1 ?_
             intro v2 Y3 ho3 hg3 _ hvb3
             have T3:=T2.app2 ho3 hg3 hvb3
             replace BQ:=box_app BQ (fun k hk e=>by have:=(hu2 k hk);omega) hg3
             have hyz3:X0.heap.size≤Y3.heap.size:=Nat.le_trans hyz2 hg3.size
             refine HKK.out _ _ (HSi.out _ T3.1) ?_
             clear HKK ho3 hg3 hvb3
             simp only [Act.put,List.setIfInBounds_toArray,List.set_cons_succ,List.set_cons_zero]
             refine any_go [] [10] (fuel:=2) noPanic_hQ (by kernel_rfl) (HSi.out _ T3.1) ?_
             simp only [opsAt,List.filterMap_cons,List.filterMap_nil,List.getElem?_toArray,List.getElem?_cons_zero,List.getElem?_cons_succ]
             show wpQuiet _ _ _ _ [] _
             refine wpQuiet_nil ?_
             intro k hk
             obtain rfl:=List.mem_singleton.1 hk
             intro K hK
             have HKK:=lh hK
             clear hK
             simp only [List.filterMap_cons,List.filterMap_nil,List.getElem?_toArray,List.getElem?_cons_zero,List.getElem?_cons_succ]
             show wpList _ _ _ [_] _ _
             refine wpList_append_own_at _ rfl _ _ 56 rfl M 3 i3 (.int .i64 0) 1 8 Tryz.underlying56 hi3 hz3 ha3 hb3 rfl (by decide) _ _ _ rfl T3.2.2.2.1 ⟨gq,0,none⟩ 1 1 [.int .i64 (soI cs i)] rfl rfl (one_news BQ) (by simp [Value.oneCell']) (by unfold maxLen;rw [List.length_map];omega) (by rw [List.length_map];omega) T3.2.1 ?_
             intro v3 Y4 ho4 hg4 _ hvb4
             have T4:=T3.app3 ho4 hg4 hvb4
             refine HKK.out _ _ (HSi.out _ T4.1) ?_
             clear HKK ho4 hg4 hvb4
             simp only [Act.put,List.setIfInBounds_toArray,List.set_cons_succ,List.set_cons_zero]
             refine any_fin [11,12] noPanic_hQ (by kernel_rfl) (HSi.out _ T4.1) ?_
             simp only [opsAt,List.filterMap_cons,List.filterMap_nil,List.getElem?_toArray,List.getElem?_cons_zero,List.getElem?_cons_succ]
             show wpQuiet _ _ _ _ [_,_] _
             repeat (go_big_quiet_step (fail))
             refine wpQuiet_nil ?_
             have TT:=lh T4
             have HB4:=lh (HQB.out.trans T4.1)
             simp only [NoPanic]
             gi_wp2_with (fail)
             go_roundw
             case rel=>exact⟨j,f-1,acc++[(posI cs j,i)],rfl,rfl,hj2,by omega,by rw [HACC.out,HSO.out,List.append_assoc];rfl,by have h:=TT.out.2.2.1;rw [List.length_append,List.length_map] at h;rw [List.length_append,List.map_append];exact h,by have h:=TT.out.2.2.2.1;rw [List.length_append,List.length_map] at h;rw [List.length_append,List.map_append];exact h,TT.out.2.2.2.2,HB4.out⟩
             case measure=>simp [intOf];omega
           ·obtain rfl:=List.mem_singleton.1 hk
            intro K hK
            have HKK:=lh hK
            clear hK
            simp only [List.filterMap_cons,List.filterMap_nil,List.getElem?_toArray,List.getElem?_cons_zero,List.getElem?_cons_succ]
            show wpList _ _ _ [_] _ _
            go_wp2_with (fail)
            have T1:=T0.alloc (.cells #[.int .i64 (soI cs i)] 3)
            have BQ:=Boxed.new X0 3 (.int .i64 (soI cs i))
            have hs1:X0.heap.size≤X0.heap.size:=Nat.le_refl _
            have hyz1:X0.heap.size≤(X0.alloc (.cells #[.int .i64 (soI cs i)] 3)).heap.size:=by rw [World.size_alloc];omega
            refine HKK.out _ _ (HSi.out _ T1.1) ?_
            clear HKK
            obtain⟨gq,hgq⟩:∃g,X0.heap.size=g:=⟨_,rfl⟩
            generalize X0.alloc (.cells #[.int .i64 (soI cs i)] 3)=Y1 at T1 BQ hyz1 ⊢
            have hgqX:X0.heap.size≤gq:=by omega
            rw [hgq] at BQ ⊢
            refine any_go [] [2] (fuel:=4) noPanic_hQ (by kernel_rfl) (HSi.out _ T1.1) ?_
            simp only [opsAt,List.filterMap_cons,List.filterMap_nil,List.getElem?_toArray,List.getElem?_cons_zero,List.getElem?_cons_succ]
            show wpQuiet _ _ _ _ [] _
            refine wpQuiet_nil ?_
            intro k hk
            obtain rfl:=List.mem_singleton.1 hk
            intro K hK
            have HKK:=lh hK
            clear hK
            simp only [List.filterMap_cons,List.filterMap_nil,List.getElem?_toArray,List.getElem?_cons_zero,List.getElem?_cons_succ]
            show wpList _ _ _ [_] _ _
            go_wp2_with (fail)
            have T2:=T1.alloc (.cells #[.int .i64 (posI cs j)] 3)
            have BP:=Boxed.new Y1 3 (.int .i64 (posI cs j))
            replace BQ:=BQ.alloc (.cells #[.int .i64 (posI cs j)] 3)
            have hs2:X0.heap.size≤Y1.heap.size:=hyz1
            have hyz2:X0.heap.size≤(Y1.alloc (.cells #[.int .i64 (posI cs j)] 3)).heap.size:=by rw [World.size_alloc];omega
            refine HKK.out _ _ (HSi.out _ T2.1) ?_
            clear HKK
            obtain⟨gp,hgp⟩:∃g,Y1.heap.size=g:=⟨_,rfl⟩
            generalize Y1.alloc (.cells #[.int .i64 (posI cs j)] 3)=Y2 at T2 BP BQ hyz2 ⊢
            have hgpX:X0.heap.size≤gp:=by omega
            rw [hgp] at BP ⊢
            refine any_go [] [3] (fuel:=3) noPanic_hQ (by kernel_rfl) (HSi.out _ T2.1) ?_
            simp only [opsAt,List.filterMap_cons,List.filterMap_nil,List.getElem?_toArray,List.getElem?_cons_zero,List.getElem?_cons_succ]
            show wpQuiet _ _ _ _ [] _
            refine wpQuiet_nil ?_
            intro k hk
            obtain rfl:=List.mem_singleton.1 hk
            intro K hK
            have HKK:=lh hK
            clear hK
            simp only [List.filterMap_cons,List.filterMap_nil,List.getElem?_toArray,List.getElem?_cons_zero,List.getElem?_cons_succ]
            show wpList _ _ _ [_] _ _
            refine wpList_append_own_at _ rfl _ _ 56 rfl M 3 i3 (.int .i64 0) 1 8 Tryz.underlying56 hi3 hz3 ha3 hb3 rfl (by decide) _ _ _ rfl T2.2.2.1 ⟨gp,0,none⟩ 1 1 [.int .i64 (posI cs j)] rfl rfl (one_news BP) (by simp [Value.oneCell']) (by unfold maxLen;rw [List.length_map];omega) (by rw [List.length_map];omega) T2.2.1 ?_
            intro v2 Y3 ho3 hg3 _ hvb3
            have T3:=T2.app2 ho3 hg3 hvb3
            replace BQ:=box_app BQ (fun k hk e=>by have:=(hu2 k hk);omega) hg3
            have hyz3:X0.heap.size≤Y3.heap.size:=Nat.le_trans hyz2 hg3.size
            refine HKK.out _ _ (HSi.out _ T3.1) ?_
            clear HKK ho3 hg3 hvb3
            simp only [Act.put,List.setIfInBounds_toArray,List.set_cons_succ,List.set_cons_zero]
            refine any_go [] [10] (fuel:=2) noPanic_hQ (by kernel_rfl) (HSi.out _ T3.1) ?_
            simp only [opsAt,List.filterMap_cons,List.filterMap_nil,List.getElem?_toArray,List.getElem?_cons_zero,List.getElem?_cons_succ]
            show wpQuiet _ _ _ _ [] _
            refine wpQuiet_nil ?_
            intro k hk
            obtain rfl:=List.mem_singleton.1 hk
            intro K hK
            have HKK:=lh hK
            clear hK
            simp only [List.filterMap_cons,List.filterMap_nil,List.getElem?_toArray,List.getElem?_cons_zero,List.getElem?_cons_succ]
            show wpList _ _ _ [_] _ _
            refine wpList_append_own_at _ rfl _ _ 56 rfl M 3 i3 (.int .i64 0) 1 8 Tryz.underlying56 hi3 hz3 ha3 hb3 rfl (by decide) _ _ _ rfl T3.2.2.2.1 ⟨gq,0,none⟩ 1 1 [.int .i64 (soI cs i)] rfl rfl (one_news BQ) (by simp [Value.oneCell']) (by unfold maxLen;rw [List.length_map];omega) (by rw [List.length_map];omega) T3.2.1 ?_
            intro v3 Y4 ho4 hg4 _ hvb4
            have T4:=T3.app3 ho4 hg4 hvb4
            refine HKK.out _ _ (HSi.out _ T4.1) ?_
            clear HKK ho4 hg4 hvb4
            simp only [Act.put,List.setIfInBounds_toArray,List.set_cons_succ,List.set_cons_zero]
            refine any_fin [11,12] noPanic_hQ (by kernel_rfl) (HSi.out _ T4.1) ?_
            simp only [opsAt,List.filterMap_cons,List.filterMap_nil,List.getElem?_toArray,List.getElem?_cons_zero,List.getElem?_cons_succ]
            show wpQuiet _ _ _ _ [_,_] _
            repeat (go_big_quiet_step (fail))
            refine wpQuiet_nil ?_
            have TT:=lh T4
            have HB4:=lh (HQB.out.trans T4.1)
            simp only [NoPanic]
            gi_wp2_with (fail)
            go_roundw
            case rel=>exact⟨j,f-1,acc++[(posI cs j,i)],rfl,rfl,hj2,by omega,by rw [HACC.out,HSO.out,List.append_assoc];rfl,by have h:=TT.out.2.2.1;rw [List.length_append,List.length_map] at h;rw [List.length_append,List.map_append];exact h,by have h:=TT.out.2.2.2.1;rw [List.length_append,List.length_map] at h;rw [List.length_append,List.map_append];exact h,TT.out.2.2.2.2,HB4.out⟩
            case measure=>simp [intOf];omega
     ·obtain⟨G1',G2',cur1',cur2',e1,e2,b1,b2,hcell⟩:=(HRr.out.below hb').2.2 (by omega)
      cases e1
      cases e2
      have HD2:=lh (HRr.out.below hb').2.1.cell
      have HD1:=lh (HRr.out.below hb').1.cell
      have HKI:Hid (wr.cell? ⟨G2,i,none⟩=some (.int .i64 (soI cs i))):=lh (by simp [World.cell?,b2,(hcell i (by omega)).2])
      have HSEG:=lh hseg
      have HBB:=lh hb'
      have d1:=HD1.out
      have hjm:¬ (j:Int)<(cs.length:Int):=by omega
      clear hseg hb' hcell b1 b2 cc cb hw1 hwp
      have q1:=row_keptC (row:=none) HO1.out ⟨HBB.out.os,HBB.out.tape,HBB.out.output,HBB.out.size,fun k hk _=>HBB.out.block k hk⟩ (fun k e=>by cases e)
      have q2:=row_keptC (row:=none) HO2.out ⟨HBB.out.os,HBB.out.tape,HBB.out.output,HBB.out.size,fun k hk _=>HBB.out.block k hk⟩ (fun k e=>by cases e)
      have hMo:=HBM.out.size
      have qb:Below M W wr:=HBM.out.trans (HBB.out.mono (by omega))
      have hMr:M≤wr.heap.size:=by have:=qb.size;omega
      have hbX:Below wr.heap.size wr (wr):=Below.refl _ _
      have hgX:wr.grownBy (wr) none:=⟨hbX.os,hbX.tape,hbX.output,hbX.size,fun k hk _=>hbX.block k hk⟩
      replace q1:=row_keptC (row:=none) q1 hgX (fun k e=>by cases e)
      replace q2:=row_keptC (row:=none) q2 hgX (fun k e=>by cases e)
      have hal:acc.length≤2097152:=by
       have h1:=congrArg List.length HACC.out
       have h2:=segOut_len cs cs.length 0 0
       rw [List.length_append] at h1
       omega
      have hsg:segIn cs i cs.length (i+1) (posI cs (i+1))=(j,posI cs j):=by
       rw [HSEG.out]
       cases f' with | zero=>rfl | succ g=>rw [segIn,if_neg (fun h=>hjl h.1)]
      have hso:segOut cs f i (posI cs i)=(posI cs j,i)::segOut cs (f-1) j (posI cs j):=by
       obtain⟨g,rfl⟩:∃g,f=g+1:=⟨f-1,by omega⟩
       rw [segOut,if_pos hlt,←HPS.out,hsg]
       rfl
      have HSO:=lh hso
      clear hsg hso
      gi_upto_region 23 with (fail)
      refine wpIn_wide.2 ?_
      clear hgX
      have hsX:=hbX.size
      have hbMX:Below M wr wr:=hbX.mono hMr
      obtain⟨S,hS1,hS2⟩:∃S:World→Prop,(∀w',S w'→Below M wr w')∧(∀w',Below M wr w'→S w'):=⟨fun w'=>Below M wr w',fun _ h=>h,fun _ h=>h⟩
      have hG2M:G2<M:=HG2.out
      have hnM:n+1<M:=by omega
      have kp0:∀p:WIn S,p.w.cell? ⟨n+1,0,none⟩=some (.slice (some ⟨G2,0,none⟩) cs.length c2):=fun p=>((hS1 _ p.h).cell (p:=⟨n+1,0,none⟩) hnM).trans HD2.out
      have kp1:∀p:WIn S,p.w.cell? ⟨G2,i,none⟩=some (.int .i64 (soI cs i)):=fun p=>((hS1 _ p.h).cell (p:=⟨G2,i,none⟩) hG2M).trans HKI.out
      have HSi:=lh hS2
      have hne:Nonempty (WIn S):=⟨⟨wr,hS2 _ (Below.refl _ _)⟩⟩
      have HQB:=lh qb
      have himI:(i:Int)<(cs.length:Int):=by omega
      have T0:TwS M wr u2 u3 (acc.map fun p=>Value.int .i64 p.1) (acc.map fun p=>Value.int .i64 (soI cs p.2)) wr.drew:=⟨hbMX.drew,by show M≤wr.heap.size;omega,by rw [List.length_map];exact q1,by rw [List.length_map];exact q2,HAP.out⟩
      clear hS1 hS2 q1 q2 qb hbX hbMX
      refine wp_region_T S (by kernel_rfl) ?_
      generalize wr.drew=X0 at T0 ⊢
      have hu2:∀k,u2.ownBlock=some k→k<X0.heap.size:=fun k hk=>(T0.2.2.1.lt k hk).2
      refine any_go [0,1,4,5,6,7,8] [2,9] (fuel:=5) noPanic_hQ (by kernel_rfl) (HSi.out _ T0.1) ?_
      simp only [opsAt,List.filterMap_cons,List.filterMap_nil,List.getElem?_toArray,List.getElem?_cons_zero,List.getElem?_cons_succ]
      show wpQuiet _ _ _ _ [_,_,_,_,_,_,_] _
      repeat (go_big_quiet_step (fail))
      refine wpQuiet_nil ?_
      intro k hk
      rcases List.mem_cons.1 hk with rfl | hk
      ·intro K hK
       have HKK:=lh hK
       clear hK
       simp only [List.filterMap_cons,List.filterMap_nil,List.getElem?_toArray,List.getElem?_cons_zero,List.getElem?_cons_succ]
       show wpList _ _ _ [_] _ _
       go_wp2_with (fail)
       have T1:=T0.alloc (.cells #[.int .i64 (posI cs j)] 3)
       have BP:=Boxed.new X0 3 (.int .i64 (posI cs j))
       have hs1:X0.heap.size≤X0.heap.size:=Nat.le_refl _
       have hyz1:X0.heap.size≤(X0.alloc (.cells #[.int .i64 (posI cs j)] 3)).heap.size:=by rw [World.size_alloc];omega
       refine HKK.out _ _ (HSi.out _ T1.1) ?_
       clear HKK
       obtain⟨gp,hgp⟩:∃g,X0.heap.size=g:=⟨_,rfl⟩
       generalize X0.alloc (.cells #[.int .i64 (posI cs j)] 3)=Y1 at T1 BP hyz1 ⊢
       have hgpX:X0.heap.size≤gp:=by omega
       rw [hgp] at BP ⊢
       refine any_go [] [3,9] (fuel:=4) noPanic_hQ (by kernel_rfl) (HSi.out _ T1.1) ?_
       simp only [opsAt,List.filterMap_cons,List.filterMap_nil,List.getElem?_toArray,List.getElem?_cons_zero,List.getElem?_cons_succ]
       show wpQuiet _ _ _ _ [] _
       refine wpQuiet_nil ?_
       intro k hk
       rcases List.mem_cons.1 hk with rfl | hk
       ·intro K hK
        have HKK:=lh hK
        clear hK
        simp only [List.filterMap_cons,List.filterMap_nil,List.getElem?_toArray,List.getElem?_cons_zero,List.getElem?_cons_succ]
        show wpList _ _ _ [_] _ _
        refine wpList_append_own_at _ rfl _ _ 56 rfl M 3 i3 (.int .i64 0) 1 8 Tryz.underlying56 hi3 hz3 ha3 hb3 rfl (by decide) _ _ _ rfl T1.2.2.1 ⟨gp,0,none⟩ 1 1 [.int .i64 (posI cs j)] rfl rfl (one_news BP) (by simp [Value.oneCell']) (by unfold maxLen;rw [List.length_map];omega) (by rw [List.length_map];omega) T1.2.1 ?_
        intro v2 Y2 ho2 hg2 _ hvb2
        have T2:=T1.app2 ho2 hg2 hvb2
        have hyz2:X0.heap.size≤Y2.heap.size:=Nat.le_trans hyz1 hg2.size
        refine HKK.out _ _ (HSi.out _ T2.1) ?_
        clear HKK ho2 hg2 hvb2
        simp only [Act.put,List.setIfInBounds_toArray,List.set_cons_succ,List.set_cons_zero]
        refine any_go [] [9] (fuel:=3) noPanic_hQ (by kernel_rfl) (HSi.out _ T2.1) ?_
        simp only [opsAt,List.filterMap_cons,List.filterMap_nil,List.getElem?_toArray,List.getElem?_cons_zero,List.getElem?_cons_succ]
        show wpQuiet _ _ _ _ [] _
        refine wpQuiet_nil ?_
        intro k hk
        obtain rfl:=List.mem_singleton.1 hk
        intro K hK
        have HKK:=lh hK
        clear hK
        simp only [List.filterMap_cons,List.filterMap_nil,List.getElem?_toArray,List.getElem?_cons_zero,List.getElem?_cons_succ]
        show wpList _ _ _ [_] _ _
        go_wp2_with (fail)
        have T3:=T2.alloc (.cells #[.int .i64 (soI cs i)] 3)
        have BQ:=Boxed.new Y2 3 (.int .i64 (soI cs i))
        have hs3:X0.heap.size≤Y2.heap.size:=hyz2
        have hyz3:X0.heap.size≤(Y2.alloc (.cells #[.int .i64 (soI cs i)] 3)).heap.size:=by rw [World.size_alloc];omega
        refine HKK.out _ _ (HSi.out _ T3.1) ?_
        clear HKK
        obtain⟨gq,hgq⟩:∃g,Y2.heap.size=g:=⟨_,rfl⟩
        generalize Y2.alloc (.cells #[.int .i64 (soI cs i)] 3)=Y3 at T3 BQ hyz3 ⊢
        have hgqX:X0.heap.size≤gq:=by omega
        rw [hgq] at BQ ⊢
        refine any_go [] [10] (fuel:=2) noPanic_hQ (by kernel_rfl) (HSi.out _ T3.1) ?_
        simp only [opsAt,List.filterMap_cons,List.filterMap_nil,List.getElem?_toArray,List.getElem?_cons_zero,List.getElem?_cons_succ]
        show wpQuiet _ _ _ _ [] _
        refine wpQuiet_nil ?_
        intro k hk
        obtain rfl:=List.mem_singleton.1 hk
        intro K hK
        have HKK:=lh hK
        clear hK
        simp only [List.filterMap_cons,List.filterMap_nil,List.getElem?_toArray,List.getElem?_cons_zero,List.getElem?_cons_succ]
        show wpList _ _ _ [_] _ _
        refine wpList_append_own_at _ rfl _ _ 56 rfl M 3 i3 (.int .i64 0) 1 8 Tryz.underlying56 hi3 hz3 ha3 hb3 rfl (by decide) _ _ _ rfl T3.2.2.2.1 ⟨gq,0,none⟩ 1 1 [.int .i64 (soI cs i)] rfl rfl (one_news BQ) (by simp [Value.oneCell']) (by unfold maxLen;rw [List.length_map];omega) (by rw [List.length_map];omega) T3.2.1 ?_
        intro v3 Y4 ho4 hg4 _ hvb4
        have T4:=T3.app3 ho4 hg4 hvb4
        refine HKK.out _ _ (HSi.out _ T4.1) ?_
        clear HKK ho4 hg4 hvb4
        simp only [Act.put,List.setIfInBounds_toArray,List.set_cons_succ,List.set_cons_zero]
        refine any_fin [11,12] noPanic_hQ (by kernel_rfl) (HSi.out _ T4.1) ?_
        simp only [opsAt,List.filterMap_cons,List.filterMap_nil,List.getElem?_toArray,List.getElem?_cons_zero,List.getElem?_cons_succ]
        show wpQuiet _ _ _ _ [_,_] _
        repeat (go_big_quiet_step (fail))
        refine wpQuiet_nil ?_
        have TT:=lh T4
        have HB4:=lh (HQB.out.trans T4.1)
        simp only [NoPanic]
        gi_wp2_with (fail)
        go_roundw
        case rel=>exact⟨j,f-1,acc++[(posI cs j,i)],rfl,rfl,hj2,by omega,by rw [HACC.out,HSO.out,List.append_assoc];rfl,by have h:=TT.out.2.2.1;rw [List.length_append,List.length_map] at h;rw [List.length_append,List.map_append];exact h,by have h:=TT.out.2.2.2.1;rw [List.length_append,List.length_map] at h;rw [List.length_append,List.map_append];exact h,TT.out.2.2.2.2,HB4.out⟩
        case measure=>simp [intOf];omega
       ·obtain rfl:=List.mem_singleton.1 hk
        intro K hK
        have HKK:=lh hK
        clear hK
        simp only [List.filterMap_cons,List.filterMap_nil,List.getElem?_toArray,List.getElem?_cons_zero,List.getElem?_cons_succ]
        show wpList _ _ _ [_] _ _
        go_wp2_with (fail)
        have T2:=T1.alloc (.cells #[.int .i64 (soI cs i)] 3)
        have BQ:=Boxed.new Y1 3 (.int .i64 (soI cs i))
        replace BP:=BP.alloc (.cells #[.int .i64 (soI cs i)] 3)
        have hs2:X0.heap.size≤Y1.heap.size:=hyz1
        have hyz2:X0.heap.size≤(Y1.alloc (.cells #[.int .i64 (soI cs i)] 3)).heap.size:=by rw [World.size_alloc];omega
        refine HKK.out _ _ (HSi.out _ T2.1) ?_
        clear HKK
        obtain⟨gq,hgq⟩:∃g,Y1.heap.size=g:=⟨_,rfl⟩
        generalize Y1.alloc (.cells #[.int .i64 (soI cs i)] 3)=Y2 at T2 BQ BP hyz2 ⊢
        have hgqX:X0.heap.size≤gq:=by omega
        rw [hgq] at BQ ⊢
        refine any_go [] [3] (fuel:=3) noPanic_hQ (by kernel_rfl) (HSi.out _ T2.1) ?_
        simp only [opsAt,List.filterMap_cons,List.filterMap_nil,List.getElem?_toArray,List.getElem?_cons_zero,List.getElem?_cons_succ]
        show wpQuiet _ _ _ _ [] _
        refine wpQuiet_nil ?_
        intro k hk
        obtain rfl:=List.mem_singleton.1 hk
        intro K hK
        have HKK:=lh hK
        clear hK
        simp only [List.filterMap_cons,List.filterMap_nil,List.getElem?_toArray,List.getElem?_cons_zero,List.getElem?_cons_succ]
        show wpList _ _ _ [_] _ _
        refine wpList_append_own_at _ rfl _ _ 56 rfl M 3 i3 (.int .i64 0) 1 8 Tryz.underlying56 hi3 hz3 ha3 hb3 rfl (by decide) _ _ _ rfl T2.2.2.1 ⟨gp,0,none⟩ 1 1 [.int .i64 (posI cs j)] rfl rfl (one_news BP) (by simp [Value.oneCell']) (by unfold maxLen;rw [List.length_map];omega) (by rw [List.length_map];omega) T2.2.1 ?_
        intro v2 Y3 ho3 hg3 _ hvb3
        have T3:=T2.app2 ho3 hg3 hvb3
        replace BQ:=box_app BQ (fun k hk e=>by have:=(hu2 k hk);omega) hg3
        have hyz3:X0.heap.size≤Y3.heap.size:=Nat.le_trans hyz2 hg3.size
        refine HKK.out _ _ (HSi.out _ T3.1) ?_
        clear HKK ho3 hg3 hvb3
        simp only [Act.put,List.setIfInBounds_toArray,List.set_cons_succ,List.set_cons_zero]
        refine any_go [] [10] (fuel:=2) noPanic_hQ (by kernel_rfl) (HSi.out _ T3.1) ?_
        simp only [opsAt,List.filterMap_cons,List.filterMap_nil,List.getElem?_toArray,List.getElem?_cons_zero,List.getElem?_cons_succ]
        show wpQuiet _ _ _ _ [] _
        refine wpQuiet_nil ?_
        intro k hk
        obtain rfl:=List.mem_singleton.1 hk
        intro K hK
        have HKK:=lh hK
        clear hK
        simp only [List.filterMap_cons,List.filterMap_nil,List.getElem?_toArray,List.getElem?_cons_zero,List.getElem?_cons_succ]
        show wpList _ _ _ [_] _ _
        refine wpList_append_own_at _ rfl _ _ 56 rfl M 3 i3 (.int .i64 0) 1 8 Tryz.underlying56 hi3 hz3 ha3 hb3 rfl (by decide) _ _ _ rfl T3.2.2.2.1 ⟨gq,0,none⟩ 1 1 [.int .i64 (soI cs i)] rfl rfl (one_news BQ) (by simp [Value.oneCell']) (by unfold maxLen;rw [List.length_map];omega) (by rw [List.length_map];omega) T3.2.1 ?_
        intro v3 Y4 ho4 hg4 _ hvb4
        have T4:=T3.app3 ho4 hg4 hvb4
        refine HKK.out _ _ (HSi.out _ T4.1) ?_
        clear HKK ho4 hg4 hvb4
        simp only [Act.put,List.setIfInBounds_toArray,List.set_cons_succ,List.set_cons_zero]
        refine any_fin [11,12] noPanic_hQ (by kernel_rfl) (HSi.out _ T4.1) ?_
        simp only [opsAt,List.filterMap_cons,List.filterMap_nil,List.getElem?_toArray,List.getElem?_cons_zero,List.getElem?_cons_succ]
        show wpQuiet _ _ _ _ [_,_] _
        repeat (go_big_quiet_step (fail))
        refine wpQuiet_nil ?_
        have TT:=lh T4
        have HB4:=lh (HQB.out.trans T4.1)
        simp only [NoPanic]
        gi_wp2_with (fail)
        go_roundw
        case rel=>exact⟨j,f-1,acc++[(posI cs j,i)],rfl,rfl,hj2,by omega,by rw [HACC.out,HSO.out,List.append_assoc];rfl,by have h:=TT.out.2.2.1;rw [List.length_append,List.length_map] at h;rw [List.length_append,List.map_append];exact h,by have h:=TT.out.2.2.2.1;rw [List.length_append,List.length_map] at h;rw [List.length_append,List.map_append];exact h,TT.out.2.2.2.2,HB4.out⟩
        case measure=>simp [intOf];omega
      ·obtain rfl:=List.mem_singleton.1 hk
       intro K hK
       have HKK:=lh hK
       clear hK
       simp only [List.filterMap_cons,List.filterMap_nil,List.getElem?_toArray,List.getElem?_cons_zero,List.getElem?_cons_succ]
       show wpList _ _ _ [_] _ _
       go_wp2_with (fail)
       have T1:=T0.alloc (.cells #[.int .i64 (soI cs i)] 3)
       have BQ:=Boxed.new X0 3 (.int .i64 (soI cs i))
       have hs1:X0.heap.size≤X0.heap.size:=Nat.le_refl _
       have hyz1:X0.heap.size≤(X0.alloc (.cells #[.int .i64 (soI cs i)] 3)).heap.size:=by rw [World.size_alloc];omega
       refine HKK.out _ _ (HSi.out _ T1.1) ?_
       clear HKK
       obtain⟨gq,hgq⟩:∃g,X0.heap.size=g:=⟨_,rfl⟩
       generalize X0.alloc (.cells #[.int .i64 (soI cs i)] 3)=Y1 at T1 BQ hyz1 ⊢
       have hgqX:X0.heap.size≤gq:=by omega
       rw [hgq] at BQ ⊢
       refine any_go [] [2] (fuel:=4) noPanic_hQ (by kernel_rfl) (HSi.out _ T1.1) ?_
       simp only [opsAt,List.filterMap_cons,List.filterMap_nil,List.getElem?_toArray,List.getElem?_cons_zero,List.getElem?_cons_succ]
       show wpQuiet _ _ _ _ [] _
       refine wpQuiet_nil ?_
       intro k hk
       obtain rfl:=List.mem_singleton.1 hk
       intro K hK
       have HKK:=lh hK
       clear hK
       simp only [List.filterMap_cons,List.filterMap_nil,List.getElem?_toArray,List.getElem?_cons_zero,List.getElem?_cons_succ]
       show wpList _ _ _ [_] _ _
       go_wp2_with (fail)
       have T2:=T1.alloc (.cells #[.int .i64 (posI cs j)] 3)
       have BP:=Boxed.new Y1 3 (.int .i64 (posI cs j))
       replace BQ:=BQ.alloc (.cells #[.int .i64 (posI cs j)] 3)
       have hs2:X0.heap.size≤Y1.heap.size:=hyz1
       have hyz2:X0.heap.size≤(Y1.alloc (.cells #[.int .i64 (posI cs j)] 3)).heap.size:=by rw [World.size_alloc];omega
       refine HKK.out _ _ (HSi.out _ T2.1) ?_
       clear HKK
       obtain⟨gp,hgp⟩:∃g,Y1.heap.size=g:=⟨_,rfl⟩
       generalize Y1.alloc (.cells #[.int .i64 (posI cs j)] 3)=Y2 at T2 BP BQ hyz2 ⊢
       have hgpX:X0.heap.size≤gp:=by omega
       rw [hgp] at BP ⊢
       refine any_go [] [3] (fuel:=3) noPanic_hQ (by kernel_rfl) (HSi.out _ T2.1) ?_
       simp only [opsAt,List.filterMap_cons,List.filterMap_nil,List.getElem?_toArray,List.getElem?_cons_zero,List.getElem?_cons_succ]
       show wpQuiet _ _ _ _ [] _
       refine wpQuiet_nil ?_
       intro k hk
       obtain rfl:=List.mem_singleton.1 hk
       intro K hK
       have HKK:=lh hK
       clear hK
       simp only [List.filterMap_cons,List.filterMap_nil,List.getElem?_toArray,List.getElem?_cons_zero,List.getElem?_cons_succ]
       show wpList _ _ _ [_] _ _
       refine wpList_append_own_at _ rfl _ _ 56 rfl M 3 i3 (.int .i64 0) 1 8 Tryz.underlying56 hi3 hz3 ha3 hb3 rfl (by decide) _ _ _ rfl T2.2.2.1 ⟨gp,0,none⟩ 1 1 [.int .i64 (posI cs j)] rfl rfl (one_news BP) (by simp [Value.oneCell']) (by unfold maxLen;rw [List.length_map];omega) (by rw [List.length_map];omega) T2.2.1 ?_
       intro v2 Y3 ho3 hg3 _ hvb3
       have T3:=T2.app2 ho3 hg3 hvb3
       replace BQ:=box_app BQ (fun k hk e=>by have:=(hu2 k hk);omega) hg3
       have hyz3:X0.heap.size≤Y3.heap.size:=Nat.le_trans hyz2 hg3.size
       refine HKK.out _ _ (HSi.out _ T3.1) ?_
       clear HKK ho3 hg3 hvb3
       simp only [Act.put,List.setIfInBounds_toArray,List.set_cons_succ,List.set_cons_zero]
       refine any_go [] [10] (fuel:=2) noPanic_hQ (by kernel_rfl) (HSi.out _ T3.1) ?_
       simp only [opsAt,List.filterMap_cons,List.filterMap_nil,List.getElem?_toArray,List.getElem?_cons_zero,List.getElem?_cons_succ]
       show wpQuiet _ _ _ _ [] _
       refine wpQuiet_nil ?_
       intro k hk
       obtain rfl:=List.mem_singleton.1 hk
       intro K hK
       have HKK:=lh hK
       clear hK
       simp only [List.filterMap_cons,List.filterMap_nil,List.getElem?_toArray,List.getElem?_cons_zero,List.getElem?_cons_succ]
       show wpList _ _ _ [_] _ _
       refine wpList_append_own_at _ rfl _ _ 56 rfl M 3 i3 (.int .i64 0) 1 8 Tryz.underlying56 hi3 hz3 ha3 hb3 rfl (by decide) _ _ _ rfl T3.2.2.2.1 ⟨gq,0,none⟩ 1 1 [.int .i64 (soI cs i)] rfl rfl (one_news BQ) (by simp [Value.oneCell']) (by unfold maxLen;rw [List.length_map];omega) (by rw [List.length_map];omega) T3.2.1 ?_
       intro v3 Y4 ho4 hg4 _ hvb4
       have T4:=T3.app3 ho4 hg4 hvb4
       refine HKK.out _ _ (HSi.out _ T4.1) ?_
       clear HKK ho4 hg4 hvb4
       simp only [Act.put,List.setIfInBounds_toArray,List.set_cons_succ,List.set_cons_zero]
       refine any_fin [11,12] noPanic_hQ (by kernel_rfl) (HSi.out _ T4.1) ?_
       simp only [opsAt,List.filterMap_cons,List.filterMap_nil,List.getElem?_toArray,List.getElem?_cons_zero,List.getElem?_cons_succ]
       show wpQuiet _ _ _ _ [_,_] _
       repeat (go_big_quiet_step (fail))
       refine wpQuiet_nil ?_
       have TT:=lh T4
       have HB4:=lh (HQB.out.trans T4.1)
       simp only [NoPanic]
       gi_wp2_with (fail)
       go_roundw
       case rel=>exact⟨j,f-1,acc++[(posI cs j,i)],rfl,rfl,hj2,by omega,by rw [HACC.out,HSO.out,List.append_assoc];rfl,by have h:=TT.out.2.2.1;rw [List.length_append,List.length_map] at h;rw [List.length_append,List.map_append];exact h,by have h:=TT.out.2.2.2.1;rw [List.length_append,List.length_map] at h;rw [List.length_append,List.map_append];exact h,TT.out.2.2.2.2,HB4.out⟩
       case measure=>simp [intOf];omega
   ·have hend:segOut cs f i (posI cs i)=[]:=by
     cases f with
     | zero=>rfl
     | succ f=>rw [segOut,if_neg hlt]
    rw [hend,List.append_nil] at hacc
    have hse:segsI s=acc:=by unfold segsI;rw [HCS.out];exact hacc
    have hil:¬ (i:Int)<(cs.length:Int):=by omega
    have cb:=hRr.1.cell
    obtain⟨ra,rc,rfl,_⟩:=row_read ho1
    have HO1:=lh ho1
    have HBM:=lh hbm
    have HSE:=lh hse
    have hDM:D<M:=by rw [←hM];exact (Array.getElem?_eq_some_iff.1 HKD.out).1
    have hKr:wr.heap[D]? = some (.deferred (some [])):=(hbm.block D hDM).trans HKD.out
    clear hRr hend hacc ho1 ho2 hap hbm hse hf hlt
    gi_wp2_with (fail)
    refine⟨by simp,.inl ⟨_,_,rfl,run_takeDeferred hKr,?_⟩⟩
    have hwl:(wendsI s).length=acc.length:=by unfold wendsI;rw [HSE.out,List.length_map]
    refine⟨_,results_tmp2 rfl _ _ _,ra,rc,u3,by rw [hwl];rfl,?_,?_⟩
    ·have he:List.map (Value.int .i64) ((wendsI s).map fun e:Nat=>(e:Int))=acc.map fun p=>.int .i64 p.1:=by
      unfold wendsI
      rw [HSE.out,List.map_map,List.map_map]
      rfl
     unfold OutAt
     rw [List.length_map,hwl,he,hn]
     exact ownsRow_base (ownsRow_putObj HO1.out _ hKr rfl) (by omega)
    ·rw [hn]
     exact (HBW.out.trans (HBM.out.mono (by omega))).trans (belowK_b (w:=w) (by omega) wr D _ _ (by omega) hKr rfl rfl)
 case stop =>
  rintro D c pre W hD _ h _
  exact h.elim
end
end Go.Proofs.YtlbclfmbejjneaaGreatDoor
