/- Part 40 (merged by a program): lemmas of no further condition than each states. -/
import Derived.Test.YtlbclfmbejjneaaGreatDoorR39
namespace Go.Proofs.YtlbclfmbejjneaaGreatDoor
set_option linter.unusedVariables false
set_option linter.unusedSimpArgs false
section
open Go.RowKit Go.Proofs Go.Shelf
attribute [local go_sem] Oper.semAt_some
theorem eq_nilN (n:Nat) (w:World):(Op.equalIn (n+1) 40 .nilFunc .nilFunc).run Tryz.prog w=.ok true w:=by
 unfold Op.equalIn
 simp [run_underlying Tryz.underlying40,Sem.run_bind]
theorem eq_nil (w:World):(binOp BinOp.eql 40 .nilFunc .nilFunc).run Tryz.prog w=.ok (.bool true) w:=by
 have h:=eq_nilN 9999 w
 simp only [binOp,Op.equal]
 rw [show Op.maxDepth=9999+1 from rfl]
 simp [h]
def GwI (s:ByteArray) (lo en f t:Int) (B C E0:Nat) (hi:Int) (W0:World) (pre:List (PieceOf s)) (W:World):Prop :=
 ∃f' t':Int,(∀R,growF lo en (pre.map (·.1)++R) f t=growF lo en R f' t')∧Boxed W B 3 (.int .i64 f')∧Boxed W (B+1) 3 (.int .i64 t') ∧
   W.heap[C]? = some (.cells #[.int .i64 lo,.int .i64 hi] 59 (0,0))∧Boxed W E0 3 (.int .i64 en)∧Below B W0 W
def GwX (s:ByteArray) (lo en f t:Int) (B:Nat) (W0:World) (c:Code) (pre:List (PieceOf s)) (W:World):Prop :=
 c=.exit 0∧∃f' t':Int,(∀R,growF lo en (pre.map (·.1)++R) f t=(f',t'))∧Boxed W B 3 (.int .i64 f')∧Boxed W (B+1) 3 (.int .i64 t')∧Below B W0 W
theorem gwI_stays (s:ByteArray) (lo en f t:Int) (B C E0:Nat) (hi:Int) (W0:World) (m z:Nat) (h1:B+1<z) (h2:C<z) (h3:E0<z) (h4:B≤W0.heap.size):StaysAt (z+2) m z (GwI s lo en f t B C E0 hi W0):=by
 rintro pre X Y row ⟨f',t',r1,r2,r3,r4,r5,r6⟩ hg hrow
 have hk:∀k,k<z→∀o,X.heap[k]? = some o→Y.heap[k]? = some o:=fun k hk o ho=>(hg.block k (Array.getElem?_eq_some_iff.1 ho).1 (fun e=>by rcases hrow k e.symm with h | ⟨h,_⟩ <;> omega)).trans ho
 exact⟨f',t',r1,hk _ (by omega) _ r2,hk _ h1 _ r3,hk _ h2 _ r4,hk _ h3 _ r5,r6.grown hg (Nat.le_trans h4 r6.size) (fun k e=>by rcases hrow k e with h | ⟨h,_⟩ <;> omega)⟩
theorem gwX_stays (s:ByteArray) (lo en f t:Int) (B:Nat) (W0:World) (m z:Nat) (h1:B+1<z) (h4:B≤W0.heap.size) (c:Code):StaysAt (z+2) m z (GwX s lo en f t B W0 c):=by
 rintro pre X Y row ⟨r0,f',t',r1,r2,r3,r6⟩ hg hrow
 have hk:∀k,k<z→∀o,X.heap[k]? = some o→Y.heap[k]? = some o:=fun k hk o ho=>(hg.block k (Array.getElem?_eq_some_iff.1 ho).1 (fun e=>by rcases hrow k e.symm with h | ⟨h,_⟩ <;> omega)).trans ho
 exact⟨r0,f',t',r1,hk _ (by omega) _ r2,hk _ h1 _ r3,r6.grown hg (Nat.le_trans h4 r6.size) (fun k e=>by rcases hrow k e with h | ⟨h,_⟩ <;> omega)⟩
theorem growF_step (lo en:Int) (p:Nat × ByteArray) (R:List (Nat × ByteArray)) (f t:Int):growF lo en (p::R) f t =
 if (p.1:Int)+(p.2.size:Int)≤lo then growF lo en R f t else if en≤(p.1:Int) then (f,t) else growF lo en R (if (p.1:Int)≤lo then (p.1:Int) else f) ((p.1:Int)+(p.2.size:Int)):=by rw [growF]
set_option maxRecDepth 100000 in
set_option maxHeartbeats 1000000 in
theorem Grow_any (s:ByteArray) (hs:s.size≤2097152) (f t how:Int) (w:World) (hT:T8 w) :
 Calls Tryz.prog 28 #[.string s,.int .i64 f,.int .i64 t,.int .i8 how] w fun e w'=>e=.returned (.tuple #[.int .i64 (growI s f t how).1,.int .i64 (growI s f t how).2])∧Below w.heap.size w w':=by
 obtain⟨l1,l2,l3⟩:=lohi f t s.size (by omega)
 have HG:Hid (growI s f t how=if (how<0∨3<how)∨loI f t s.size=s.size then (loI f t s.size,hiI f t s.size) else growF (loI f t s.size) (max (hiI f t s.size) (loI f t s.size+1)) (wholeL s how) f t):=lh rfl
 obtain⟨res,hres⟩:∃r,growI s f t how=r:=⟨_,rfl⟩
 rw [hres] at HG ⊢
 have HSO:=lh (fun (W:World)=>sorted_any f t s.size W)
 obtain⟨lo,hlo⟩:∃lo,loI f t s.size=lo:=⟨_,rfl⟩
 obtain⟨hi,hhi⟩:∃hi,hiI f t s.size=hi:=⟨_,rfl⟩
 rw [hlo,hhi] at HG HSO
 rw [hlo] at l1 l2
 rw [hhi] at l2 l3
 have h3:Tryz.lays197_ren.g 3<w.heap.size:=cell_lt (hT.1 0 (by omega))
 have h4:Tryz.lays197_ren.g 4<w.heap.size:=cell_lt (hT.2 0 (by omega)).1
 obtain⟨B,hB⟩:∃B,w.heap.size=B:=⟨_,rfl⟩
 have HT:=lh hT
 clear hT hres hlo hhi
 refine (callsIn_wide (n:=4)).1 ?_
 refine callsIn_of_wp_marks Tryz.func28 rfl trivial ?_ rfl
 simp only [Tryz.ntmps28,List.size_toArray,List.length_cons,List.length_nil,Nat.reduceAdd,Nat.reduceSub,Array.replicate_succ,Array.replicate_zero,List.push_toArray,List.append_toArray,List.nil_append,List.cons_append]
 gi_upto_region 1 with (fail)
 obtain⟨m1,m2,m3⟩:=two_alloc w (.cells #[.int .i64 f] 3 (0,0)) (.cells #[.int .i64 t] 3 (0,0))
 have hz2:((w.alloc (.cells #[.int .i64 f] 3)).alloc (.cells #[.int .i64 t] 3)).heap.size=w.heap.size+2:=by rw [World.size_alloc,World.size_alloc]
 generalize (w.alloc (.cells #[.int .i64 f] 3)).alloc (.cells #[.int .i64 t] 3)=W1 at m1 m2 m3 hz2 ⊢
 have HB1:=lh m3
 have HW1:Hid (T8 W1):=lh (HT.out.below rfl m3)
 try rw [hB]
 rw [hB] at m1 m2 hz2 h3 h4
 have c1:W1.cell? ⟨B,0,none⟩=some (.int .i64 f):=Boxed.cell m1
 have c2:W1.cell? ⟨B+1,0,none⟩=some (.int .i64 t):=Boxed.cell m2
 have M1:=lh m1
 have M2:=lh m2
 clear m1 m2 m3 HT
 gi_wp2_with (fail)
 refine⟨trivial,?_⟩
 refine (callsIn_wide.2 (HSO.out W1)).mono ?_
 rintro e' W2 ⟨rfl,hb2⟩
 clear c1 c2
 gi_upto_region 2 with (fail)
 have hx3:=World.alloc_heap_new W2 (.cells #[.int .i64 lo,.int .i64 hi] 59)
 have hb3:Below W1.heap.size W1 (W2.alloc (.cells #[.int .i64 lo,.int .i64 hi] 59)):=hb2.alloc hb2.size _
 have hz3:(W2.alloc (.cells #[.int .i64 lo,.int .i64 hi] 59)).heap.size=W2.heap.size+1:=World.size_alloc _ _
 have hz2':=hb2.size
 generalize W2.alloc (.cells #[.int .i64 lo,.int .i64 hi] 59)=W3 at hx3 hb3 hz3 ⊢
 obtain⟨C,hC⟩:∃C,W2.heap.size=C:=⟨_,rfl⟩
 rw [hC] at hx3 hz3 hz2' ⊢
 have hzC:B+2≤C:=by omega
 have HM1:=lh ((hb3.block B (by omega)).trans M1.out)
 have HM2:=lh ((hb3.block (B+1) (by omega)).trans M2.out)
 have HX3:=lh hx3
 have HB3:=lh (HB1.out.trans (hb3.mono (by omega)))
 have HWH:=lh (wholes_any s hs how B W3 h3 h4 (by omega) (HW1.out.below rfl hb3))
 clear hx3 hb3 hb2 M1 M2 HB1 hC
 gi_wp2_with (fail)
 refine⟨trivial,?_⟩
 refine (callsIn_wide.2 HWH.out).mono ?_
 rintro e' W4 ⟨hb4,hres4⟩
 clear HWH
 have hx4:=(hb4.block C (by omega)).trans HX3.out
 have e0:W4.cell? ⟨C,0,none⟩=some (.int .i64 lo):=by simp [World.cell?,hx4]
 have e1:W4.cell? ⟨C,1,none⟩=some (.int .i64 hi):=by simp [World.cell?,hx4]
 have HX4:=lh hx4
 have HB4:=lh (HB3.out.trans (hb4.mono (by omega)))
 have HM14:=lh ((hb4.block B (by omega)).trans HM1.out)
 have HM24:=lh ((hb4.block (B+1) (by omega)).trans HM2.out)
 have hz4:=hb4.size
 clear hb4 hx4 HX3 HB3 HM1 HM2
 rcases hres4 with ⟨hout,rfl⟩ | ⟨hin,gf,lb,rfl,heg,m,Kp,hseq,hKt,hKb,hKr,hKs⟩
 ·have hr:=HG.out
  rw [if_pos (.inl hout)] at hr
  subst hr
  clear HG hout
  have hnil:=eq_nil
  gi_upto_region 4 with (fail)
  refine wpIn_wide.2 ?_
  go_quiet (fail)
  gi_wp2_with (fail)
  exact⟨_,results_tmp2 rfl _ _ _,rfl,hB▸bl_drewN HB4.out _⟩
 ·have hgnil:=fun w=>eq_fn (.func gf) #[] lb w
  by_cases hlo:lo=(s.size:Int)
  ·have hr:=HG.out
   rw [if_pos (.inr hlo)] at hr
   subst hr
   clear HG
   have hld:(lo==(s.size:Int))=true:=beq_iff_eq.2 hlo
   clear hlo
   gi_upto_region 4 with (fail)
   refine wpIn_wide.2 ?_
   go_quiet (fail)
   gi_wp2_with (fail)
   exact⟨_,results_tmp2 rfl _ _ _,rfl,hB▸bl_drewN HB4.out _⟩
  ·have hr:=HG.out
   rw [if_neg (fun h=>h.elim hin hlo)] at hr
   have HR:=lh hr
   have hld:(lo==(s.size:Int))=false:=beq_eq_false_iff_ne.2 hlo
   have HLO:=lh hlo
   have HIN:=lh hin
   clear HG hr hlo hin
   obtain⟨en,hen⟩:∃en,max hi (lo+1)=en:=⟨_,rfl⟩
   rw [hen] at HR
   have hwl:IntKind.i64.wrap (lo+1)=lo+1:=by rw [IntKind.wrap_i64];omega
   have HSQ:=lh hseq
   clear hseq
   gi_upto_region 6 with (fail)
   have hx5:Boxed (W4.alloc (.cells #[.int .i64 en] 3)) W4.heap.size 3 (.int .i64 en):=Boxed.new W4 _ _
   have hb5:Below W4.heap.size W4 (W4.alloc (.cells #[.int .i64 en] 3)):=(Below.refl _ _).alloc (Nat.le_refl _) _
   have hz5:(W4.alloc (.cells #[.int .i64 en] 3)).heap.size=W4.heap.size+1:=World.size_alloc _ _
   generalize W4.alloc (.cells #[.int .i64 en] 3)=W5 at hx5 hb5 hz5 ⊢
   obtain⟨E0,hE0⟩:∃e,W4.heap.size=e:=⟨_,rfl⟩
   have q1:=(hb5.block B (by omega)).trans HM14.out
   have q2:=(hb5.block (B+1) (by omega)).trans HM24.out
   have q3:=(hb5.block C (by omega)).trans HX4.out
   have q4:=HB4.out.trans (hb5.mono (by omega))
   rw [hB] at q4
   have HB5:=lh hb5
   rw [hE0] at hx5 hz5 hz4 ⊢
   clear hb5 e0 e1 HX4 HM14 HM24 HB4
   gi_wp2_with (fail)
   refine wpIn_rangeFunc_ownC (by omega) (gf:=gf) (lb:=lb) rfl trivial heg HSQ.out (fun h k=>hKt h k) (fun W l o o' h1 h2 h3 h4=>hKb W l o o' (by omega) h2 h3 h4) HB5.out (fun _=>rfl)
    (GwI s lo en f t B C E0 hi w) (GwX s lo en f t B w) (gwI_stays s lo en f t B C E0 hi w m _ (by omega) (by omega) (by omega) (by omega)) (fun c=>gwX_stays s lo en f t B w m _ (by omega) (by omega) c) ?h0
    (fun x=>{ tmps:=#[.string s,.int .i64 f,.int .i64 t,.int .i8 how,undef,.pointer (some ⟨B,0,none⟩),.pointer (some ⟨B+1,0,none⟩),undef,.int .i64 0,.int .i64 0,.pointer (some ⟨C,0,none⟩),.func (.func gf) #[] lb,.pointer (some ⟨E0,0,none⟩),.int .i64 x.1.1,.string x.1.2,.int .i64 f,.int .i64 t,.string s,.int .i64 s.size,.agg #[.int .i64 lo,.int .i64 hi],.string s,.int .i8 how,.func (.func gf) #[] lb,.func (.func gf) #[] lb,.bool false,.bool false,.pointer (some ⟨C,0,none⟩),.int .i64 lo,.string s,.int .i64 s.size,.bool false,.bool false,undef,undef,undef,undef,.pointer (some ⟨C,1,none⟩),.int .i64 hi,.pointer (some ⟨C,0,none⟩),.int .i64 lo,.int .i64 (lo+1),.int .i64 en,.func (.func gf) #[] lb,.int .i64 x.1.1,.string x.1.2,undef,undef,undef,undef,undef,undef,undef,undef,undef,undef,undef,undef,undef,undef,undef,undef,undef,undef,undef,undef,undef],defers:=[] }) ?assign ?body ?done ?stop
   case h0=>exact⟨f,t,fun R=>by simp,q1,q2,q3,hx5,q4⟩
   case assign =>
    intro l' x W' K hK
    gi_wp2_with (fail)
    exact hK
   case body =>
    rintro l' pre x X ⟨f',t',r1,r2,r3,r4,r5,r6⟩ hsp hge
    obtain⟨at',hat⟩:∃a,x.1.1=a:=⟨_,rfl⟩
    obtain⟨c,hcc⟩:∃c,x.1.2=c:=⟨_,rfl⟩
    have hx:=x.2
    rw [hat,hcc] at hx
    have hsn:∀R,growF lo en ((pre++[x]).map (·.1)++R) f t=if (at':Int)+(c.size:Int)≤lo then growF lo en R f' t' else if en≤(at':Int) then (f',t') else growF lo en R (if (at':Int)≤lo then (at':Int) else f') ((at':Int)+(c.size:Int)):=fun R=>by
     rw [List.map_append,List.map_singleton,List.append_assoc,r1,List.singleton_append,growF_step,hat,hcc]
    simp only [hat,hcc]
    have HSN:=lh hsn
    have c1:=r2.cell
    have c2:=r3.cell
    have k1:=r2.frozen
    have k2:=r3.frozen
    have c3:X.cell? ⟨C,0,none⟩=some (.int .i64 lo):=by simp [World.cell?,r4]
    have c5:=r5.cell
    have R2:=lh r2
    have R3:=lh r3
    have R4:=lh r4
    have R5:=lh r5
    have R6:=lh r6
    obtain⟨e,he⟩:∃e,(at':Int)+(c.size:Int)=e:=⟨_,rfl⟩
    have hwe:IntKind.i64.wrap ((at':Int)+(c.size:Int))=e:=by rw [IntKind.wrap_i64];omega
    rw [he] at HSN
    clear r1 r2 r3 r4 r5 r6 hsn hat hcc hx hsp q1 q2 q3 q4 hx5
    by_cases g1:e≤lo
    ·have HE:=lh (fun R=>(HSN.out R).trans (if_pos g1))
     clear HSN he
     gi_wp2_with (fail)
     exact⟨KeepsFrom.refl _ _,hKr _,f',t',HE.out,R2.out,R3.out,R4.out,R5.out,R6.out⟩
    ·have HE:=lh (fun R=>(HSN.out R).trans (if_neg g1))
     clear HSN he
     by_cases g2:en≤(at':Int)
     ·have HE2:=lh (fun R=>(HE.out R).trans (if_pos g2))
      clear HE
      gi_wp2_with (fail)
      exact⟨KeepsFrom.refl _ _,rfl,f',t',HE2.out,R2.out,R3.out,R6.out⟩
     ·have HE2:=lh (fun R=>(HE.out R).trans (if_neg g2))
      clear HE
      by_cases g3:(at':Int)≤lo
      ·have HE3:Hid (∀R,growF lo en ((pre++[x]).map (·.1)++R) f t=growF lo en R (at':Int) e):=lh fun R=>by rw [HE2.out R,if_pos g3]
       clear HE2
       gi_wp2_with (fail)
       refine⟨((KeepsOthers.setCell _ _ _).trans (KeepsOthers.setCell _ _ _)).from _,hKt (hKs _ _ _ (by omega) (by omega)) (hKs _ _ _ (by omega) (by omega)),(at':Int),e,HE3.out,box_other (set_at (i:=0) R2.out _) (by omega),set_at (i:=0) (box_other R3.out (by omega)) _,box_other (box_other R4.out (by omega)) (by omega),box_other (box_other R5.out (by omega)) (by omega),?_⟩
       exact (R6.out.setCell (p:=⟨B,0,none⟩) (Nat.le_refl _) _).setCell (p:=⟨B+1,0,none⟩) (Nat.le_succ _) _
      ·have HE3:Hid (∀R,growF lo en ((pre++[x]).map (·.1)++R) f t=growF lo en R f' e):=lh fun R=>by rw [HE2.out R,if_neg g3]
       clear HE2
       gi_wp2_with (fail)
       refine⟨(KeepsOthers.setCell _ _ _).from _,hKs _ _ _ (by omega) (by omega),f',e,HE3.out,box_other R2.out (by omega),set_at (i:=0) R3.out _,box_other R4.out (by omega),box_other R5.out (by omega),?_⟩
       exact R6.out.setCell (p:=⟨B+1,0,none⟩) (Nat.le_succ _) _
   case done =>
    rintro D xs W hD hxs ⟨f',t',r1,r2,r3,r4,r5,r6⟩ hK
    have hfin:res=(f',t'):=by
     have h:=r1 []
     rw [List.append_nil,hxs] at h
     rw [HR.out,h,growF]
    have c1:=r2.cell
    have c2:=r3.cell
    have R6:=lh r6
    subst hfin
    clear r1 r2 r3 r4 r5 r6 HR q1 q2 q3 q4 hx5 hxs
    gi_wp2_with (fail)
    refine wpIn_wide.2 ?_
    go_quiet (fail)
    gi_wp2_with (fail)
    refine⟨by simp,.inl ⟨_,_,rfl,run_takeDeferred hK,?_⟩⟩
    refine⟨_,results_tmp2 rfl _ _ _,rfl,?_⟩
    exact (bl_drewN R6.out _).trans (belowK_b (w:=w) (by omega) (World.drewN W _) D _ _ (by omega) hK rfl rfl)
   case stop =>
    rintro D c pre W hD hSp ⟨rfl,f',t',r1,r2,r3,r6⟩ hK
    have hfin:res=(f',t'):=by
     obtain⟨R,hR⟩:=hSp
     have h:=r1 R
     rw [hR] at h
     rw [HR.out,h]
    have c1:=r2.cell
    have c2:=r3.cell
    have R6:=lh r6
    subst hfin
    clear r1 r2 r3 r6 HR q1 q2 q3 q4 hx5 hSp
    gi_wp2_with (fail)
    refine wpIn_wide.2 ?_
    go_quiet (fail)
    gi_wp2_with (fail)
    refine⟨by simp,.inl ⟨_,_,rfl,run_takeDeferred hK,?_⟩⟩
    refine⟨_,results_tmp2 rfl _ _ _,rfl,?_⟩
    exact (bl_drewN R6.out _).trans (belowK_b (w:=w) (by omega) (World.drewN W _) D _ _ (by omega) hK rfl rfl)
end
section
theorem set_getD (l:List Nat) (i j v:Nat):(l.set i v).getD j 0=v∨(l.set i v).getD j 0=l.getD j 0:=by
 rw [List.getD_eq_getElem?_getD,List.getD_eq_getElem?_getD,List.getElem?_set]
 by_cases h:i=j
 ·subst h
  by_cases h2:i<l.length
  ·left;simp [h2]
  ·right;rw [if_pos rfl,if_neg h2,List.getElem?_eq_none (by omega)]
 ·right;rw [if_neg h]
theorem set_same (l:List Nat) (i v:Nat):(l.set i v).getD i 0=v∨(l.set i v).getD i 0=0:=by
 rw [List.getD_eq_getElem?_getD,List.getElem?_set,if_pos rfl]
 by_cases h2:i<l.length
 ·left;simp [h2]
 ·right;rw [if_neg h2];rfl
theorem hangF_le (cs:List Int) (base fr:Nat) (hb:base≤126):∀(i:Nat) (h:Bool) (out:List Nat),(∀j,i≤j→out.getD j 0≤126)→∀j,(hangF cs base fr i h out).getD j 0≤126
 | 0,h,out,ho,j=>ho j (Nat.zero_le _)
 | i+1,h,out,ho,j=>by
   rw [hangF]
   refine hangF_le cs base fr hb i _ _ (fun q hq=>?_) j
   have key:∀l:List Nat,(∀q,i+1≤q→l.getD q 0≤126)→∀v,v≤126→∀q,i≤q→(l.set i v).getD q 0≤126:=fun l hl v hv q hq=>by
    by_cases e:i=q
    ·subst e
     rcases set_same l i v with h | h <;> omega
    ·rcases set_getD l i q v with h | h
     ·omega
     ·have:=hl q (by omega);omega
   have h1:=key out ho (min (out.getD i 0) 126) (by omega)
   split
   ·exact key _ (fun q hq=>h1 q (by omega)) base hb q hq
   ·exact h1 q hq
theorem row_le {cs:List Int} {ls:List Nat} {base:Nat} {fr tt:Int} {out:List Nat} (h:rowI cs ls base fr tt=some out):∀j,out.getD j 0≤126:=by
 unfold rowI at h
 dsimp only at h
 split at h
 ·cases h
 ·have:=Option.some.inj h
  subst this
  refine hangF_le _ _ _ (by omega) _ _ _ (fun j hj=>?_)
  rw [List.getD_eq_getElem?_getD,List.getElem?_eq_none (by rw [List.length_take];omega)]
  exact Nat.zero_le _
theorem own_le (s:ByteArray) (want:Int) (fr m:Nat):∀j,(ownLv s want fr m).getD j 0≤126:=fun j=>by
 unfold ownLv
 cases h:rowI (runesI s) (visualI (runesI s) want).1 (visualI (runesI s) want).2.toNat (runesI (s.extract 0 fr)).length ((runesI (s.extract 0 fr)).length+m:Nat) with
 | none=>simp
 | some out=>exact row_le h j
theorem found_lv0:∀(l:List (Nat × ByteArray)) (n:Nat),∀p∈findF l n,p.level=0
 | [],n,p,hp=>by cases hp
 | q::t,n,p,hp=>by
   rw [findF] at hp
   rcases List.mem_cons.1 hp with rfl | hp
   ·rfl
   ·exact found_lv0 t _ p hp
theorem lay2_lv (s:ByteArray) (want:Int) (join raw:Bool) (ra rl:Int):∀p∈lay2 s want join raw ra rl,p.level<256:=fun p hp=>by
 unfold lay2 at hp
 obtain⟨q,hq,rfl⟩:=List.mem_map.1 hp
 show q.level<256
 unfold levelsI at hq
 split at hq
 ·have:=found_lv0 _ _ q hq
  omega
 ·obtain⟨r,hr,rfl⟩:=List.mem_map.1 hq
  obtain⟨o,ho⟩:∃o,ownLv s want (rowFr s ra) (lastC (foundI s (rowFr s ra) (rowTo s ra rl)))=o:=⟨_,rfl⟩
  have h1:=own_le s want (rowFr s ra) (lastC (foundI s (rowFr s ra) (rowTo s ra rl))) r.c0
  rw [ho] at h1 ⊢
  show o.getD r.c0 0<256
  omega
end
section
theorem ascii_app (a b:ByteArray):asciiB (a++b)=(asciiB a&&asciiB b):=by
 unfold asciiB
 rw [show (a++b).data=a.data++b.data from ByteArray.data_append,Array.toList_append,List.all_append]
theorem ascii_nums (l:List Int) (h:∀x∈l,0≤x∧x<128):asciiB (strOfNums l)=true:=by
 unfold asciiB strOfNums
 rw [List.all_eq_true]
 intro b hb
 simp only [List.mem_map] at hb
 obtain⟨x,hx,rfl⟩:=hb
 have:=h x hx
 have e:(UInt8.ofNat x.toNat).toNat=x.toNat:=by
  rw [UInt8.toNat_ofNat']
  omega
 simp only [e,decide_eq_true_eq]
 omega
theorem digI_bd (d:Nat) (h:d<16):0≤digI d∧digI d<128:=by
 unfold digI
 split <;> omega
theorem hexF_bd:∀(f u:Nat) (acc:List Int),(∀x∈acc,0≤x∧x<128)→∀x∈hexF f u acc,0≤x∧x<128
 | 0,u,acc,h,x,hx=>by
   rw [hexF] at hx
   rcases List.mem_cons.1 hx with rfl | hx
   ·exact digI_bd _ (by omega)
   ·exact h x hx
 | f+1,u,acc,h,x,hx=>by
   have hc:∀y∈digI (u % 16)::acc,0≤y∧y<128:=fun y hy=>by
    rcases List.mem_cons.1 hy with rfl | hy
    ·exact digI_bd _ (by omega)
    ·exact h y hy
   rw [hexF] at hx
   split at hx
   ·exact hexF_bd f _ _ hc x hx
   ·exact hc x hx
theorem padF_ascii:∀(f:Nat) (s:ByteArray),asciiB s=true→asciiB (padF f s)=true
 | 0,s,h=>h
 | f+1,s,h=>by
   rw [padF]
   split
   ·refine padF_ascii f _ ?_
    rw [ascii_app,h]
    rfl
   ·exact h
theorem named_ascii (x:Nat):asciiB (namedS x)=true:=by
 unfold namedS
 have h1:asciiB (padF 4 (strOfNums (hexI x)))=true:=padF_ascii _ _ (ascii_nums _ (hexF_bd 16 x [] (fun x h=>by cases h)))
 rw [ascii_app,ascii_app,h1]
 rfl
theorem repeatL_one:∀n:Nat,(Lib.repeatL [(32:UInt8)] n)=List.replicate n 32
 | 0=>rfl
 | n+1=>by
   rw [List.replicate_succ,←repeatL_one n]
   rfl
theorem spaces_ascii (n:Nat):asciiB (spaces n)=true∧(spaces n).size=n:=by
 unfold spaces asciiB
 rw [repeatL_one]
 refine⟨?_,?_⟩
 ·rw [List.all_eq_true]
  intro b hb
  rw [List.mem_replicate] at hb
  rw [hb.2]
  rfl
 ·simp [ByteArray.size]
theorem ctl_all:∀x:Fin 128,(x.val<32∨x.val=127)→asciiB (runesBytes [bits BinOp.xor IntKind.i32 (x.val:Int) 64])=true∧(runesBytes [bits BinOp.xor IntKind.i32 (x.val:Int) 64]).size=1:=by decide +kernel
def GoodT (c:ByteArray) (t:ByteArray × Int):Prop:=0<t.2→t.2≤19∧(t.1=c∨dotB t.1=true∨asciiB t.1=true∧t.2=t.1.size)
theorem dot_pre (s:ByteArray):dotB (⟨#[226,151,140]⟩++s)=true:=by
 unfold dotB
 rw [ByteArray.size_append]
 have h1:(⟨#[226,151,140]⟩++s:ByteArray).extract 0 3=dotS:=by
  rw [ByteArray.extract_append]
  show (dotS.extract 0 3)++s.extract (0-3) (3-3)=dotS
  rw [show s.extract (0-3) (3-3)=⟨#[]⟩ by apply ByteArray.ext;simp]
  rfl
 rw [h1]
 simp only [decide_true,Bool.and_true,decide_eq_true_eq]
 show 3≤3+s.size
 omega
theorem oneI_good (c:ByteArray) (rs:List Int) (col tab:Int) (wide raw:Bool) (h0:0≤ith rs 0):GoodT c (oneI c rs col tab wide raw):=by
 have hbd:=oneI_bd c rs col tab wide raw
 intro hp
 refine⟨hbd.2,?_⟩
 have hst:=stopI_bd col tab
 unfold oneI at hp ⊢
 split
 ·rename_i h
  rw [if_pos h] at hp
  dsimp only at hp ⊢
  obtain⟨h1,h2⟩:=spaces_ascii (stopI col tab).toNat
  exact .inr (.inr ⟨h1,by rw [h2];omega⟩)
 rename_i h1
 rw [if_neg h1] at hp
 split
 ·rename_i h
  rw [if_pos h] at hp
  exact absurd hp (by show ¬ (0:Int)<0;omega)
 rename_i h2
 rw [if_neg h2] at hp
 split
 ·rename_i h
  obtain⟨k,hk,hk2⟩:∃k:Fin 128,ith rs 0=(k.val:Int)∧(k.val<32∨k.val=127):=⟨⟨(ith rs 0).toNat,by omega⟩,by dsimp only;omega,by dsimp only;omega⟩
  obtain⟨e1,e2⟩:=ctl_all k hk2
  rw [hk]
  refine .inr (.inr ⟨?_,?_⟩)
  ·dsimp only
   rw [ascii_app,e1]
   rfl
  ·dsimp only
   rw [ByteArray.size_append,e2]
   rfl
 rename_i h3
 rw [if_neg h3] at hp
 split
 ·rename_i h
  rw [if_pos h] at hp
  split
  ·exact .inr (.inr ⟨named_ascii _,rfl⟩)
  ·rename_i h'
   rw [if_neg h'] at hp
   exact absurd hp (by show ¬ (0:Int)<0;omega)
 rename_i h4
 rw [if_neg h4] at hp
 split
 ·exact .inr (.inl (dot_pre _))
 rename_i h5
 rw [if_neg h5] at hp
 split
 ·exact .inl rfl
 rename_i h6
 rw [if_neg h6] at hp
 split
 ·rename_i h
  rw [if_pos h] at hp
  exact absurd hp (by show ¬ (0:Int)<0;omega)
 ·exact .inl rfl
theorem text_good (c:ByteArray) (h:nextI c=c.size) (col tab:Int) (wide raw:Bool):GoodT c (textI c col tab wide raw):=by
 unfold textI
 rw [h,ByteArray.extract_zero_size]
 unfold textD
 split
 ·intro hp
  exact absurd hp (by show ¬ (0:Int)<0;omega)
 split
 ·intro hp
  refine⟨by show (4:Int)≤19;omega,.inr (.inr ⟨?_,?_⟩)⟩
  ·dsimp only
   rw [ascii_app,ascii_app,ascii_nums]
   ·rfl
   ·intro x hx
    have h8:(c.get! 0).toNat<256:=UInt8.toNat_lt _
    simp only [List.mem_cons,List.not_mem_nil,or_false] at hx
    rcases hx with rfl | rfl <;> exact digI_bd _ (by omega)
  ·dsimp only
   rw [ByteArray.size_append,ByteArray.size_append,strOfNums_size]
   rfl
 ·rename_i h1 h2
  refine oneI_good _ _ _ _ _ _ ?_
  obtain⟨_,hr⟩:=runesI_pos c (by omega)
  rw [hr]
  exact Int.natCast_nonneg _
end
section
def moreR (x:Int):Nat→List Int→Nat→Int→Nat
 | 0,_,_,_=>0
 | _+1,[],_,_=>0
 | f+1,y::t,n,z=>if goesOn x z y n=true then moreR x f t (n+1) y+1 else 0
def nextR:List Int→Nat
 | []=>0
 | x::t=>if aloneB x=true then (if x=13∧t.head? = some 10 then 2 else 1) else moreR x 31 t 1 x+1
theorem bytesF_app:∀(l m:List Int),bytesF (l++m)=bytesF l++bytesF m
 | [],m=>by
   apply ByteArray.ext
   simp [bytesF]
 | r::t,m=>by rw [List.cons_append,bytesF,bytesF,bytesF_app t,ByteArray.append_assoc]
theorem bytesF_take_size (l:List Int) (k:Nat) (h:(bytesF (l.take k)).size=(bytesF l).size):l.length≤k:=by
 have h1:bytesF l=bytesF (l.take k)++bytesF (l.drop k):=by rw [←bytesF_app,List.take_append_drop]
 rw [h1,ByteArray.size_append] at h
 have h2:(bytesF (l.drop k)).size=0:=by omega
 cases hd:l.drop k with
 | nil=>exact List.drop_eq_nil_iff.1 hd
 | cons r t =>
   exfalso
   rw [hd,bytesF,ByteArray.size_append] at h2
   have:=enc_pos r
   omega
theorem enc_bad (r:Int) (hv:validRune r=true):¬ (r=65533∧(Utf8.encode r).size=1):=by
 rintro⟨rfl,h⟩
 have:(Utf8.encode 65533).size=3:=by decide
 omega
theorem more_runes (x:Int):∀(f n:Nat) (z:Int) (pre rest:List Int),validAll rest→moreF x (bytesF (pre++rest)) f n z (bytesF pre).size=(bytesF (pre++rest.take (moreR x f rest n z))).size
 | 0,n,z,pre,rest,h=>by rw [moreF,moreR];simp
 | f+1,n,z,pre,[],h=>by
   rw [moreF,moreR,if_pos (.inl (by rw [List.append_nil]))]
   simp
 | f+1,n,z,pre,y::t,h=>by
   have hv:=h y (by simp)
   have hg:=bytes_go y t hv
   have hy:0≤y:=by unfold validRune at hv;rw [decide_eq_true_eq] at hv;omega
   have hx:(bytesF (pre++y::t)).extract (bytesF pre).size (bytesF (pre++y::t)).size=bytesF (y::t):=by rw [bytesF_app];exact app_tail _ _
   have e1:decR (bytesF (y::t))=y:=by unfold decR;rw [hg];show ((y.toNat:Nat):Int)=y;omega
   have e2:decN (bytesF (y::t))=(Utf8.encode y).size:=by unfold decN;rw [hg]
   have hp:=enc_pos y
   have hz:(bytesF (pre++y::t)).size=(bytesF pre).size+((Utf8.encode y).size+(bytesF t).size):=by rw [bytesF_app,ByteArray.size_append,bytesF,ByteArray.size_append]
   rw [moreF,moreR,hx,e1,e2,if_neg (by
    rintro (e | e)
    ·omega
    ·exact enc_bad y hv e)]
   by_cases hgo:goesOn x z y n=true
   ·rw [if_pos hgo,if_pos hgo,List.take_succ_cons]
    have h1:=more_runes x f (n+1) y (pre++[y]) t (fun r hr=>h r (by simp [hr]))
    have h2:(bytesF (pre++[y])).size=(bytesF pre).size+(Utf8.encode y).size:=by
     rw [bytesF_app,ByteArray.size_append]
     congr 1
     rw [bytesF,ByteArray.size_append]
     rfl
    rw [h2] at h1
    rw [show pre++[y]++t=pre++y::t by simp,show pre++[y]++t.take (moreR x f t (n+1) y)=pre++y::t.take (moreR x f t (n+1) y) by simp] at h1
    exact h1
   ·rw [if_neg hgo,if_neg hgo]
    simp
theorem next_runes (l:List Int) (h:validAll l):nextI (bytesF l)=(bytesF (l.take (nextR l))).size:=by
 cases l with
 | nil=>rw [nextR];unfold nextI;rfl
 | cons x t =>
   have hv:=h x (by simp)
   have hg:=bytes_go x t hv
   have hx:0≤x:=by unfold validRune at hv;rw [decide_eq_true_eq] at hv;omega
   have e1:decR (bytesF (x::t))=x:=by unfold decR;rw [hg];show ((x.toNat:Nat):Int)=x;omega
   have e2:decN (bytesF (x::t))=(Utf8.encode x).size:=by unfold decN;rw [hg]
   have hp:=enc_pos x
   have hz:(bytesF (x::t)).size=(Utf8.encode x).size+(bytesF t).size:=by rw [bytesF,ByteArray.size_append]
   unfold nextI
   rw [if_neg (by omega),e1,e2,nextR]
   have hnb:=enc_bad x hv
   have hone:(bytesF [x]).size=(Utf8.encode x).size:=by rw [bytesF,ByteArray.size_append];rfl
   by_cases ha:aloneB x=true
   ·rw [if_pos (.inr ha),if_pos ha]
    have key:(x=13∧1<(bytesF (x::t)).size∧(bytesF (x::t)).get! 1=10)↔(x=13∧t.head? = some 10):=by
     constructor
     ·rintro⟨rfl,h1,h2⟩
      refine⟨rfl,?_⟩
      have e13:(Utf8.encode 13).size=1:=by decide
      have hg1:(bytesF (13::t)).get! 1=(bytesF t).get! 0:=by
       have:=ext_get (bytesF (13::t)) 1 0 (by omega)
       rw [Nat.add_zero] at this
       rw [←this]
       congr 1
       have:=app_tail (Utf8.encode 13) (bytesF t)
       rw [e13] at this
       rw [bytesF];exact this
      cases t with
      | nil=>exfalso;rw [hz,e13] at h1;simp [bytesF,ByteArray.size] at h1
      | cons y t =>
        have hvy:=h y (by simp)
        have hgy:=bytes_go y t hvy
        have hy:0≤y:=by unfold validRune at hvy;rw [decide_eq_true_eq] at hvy;omega
        have hpy:=enc_pos y
        have hzy:0<(bytesF (y::t)).size:=by rw [bytesF,ByteArray.size_append];omega
        rw [←dec_go _ hzy,Lib.decode_at,←hg1,h2] at hgy
        unfold Lib.decodeN at hgy
        rw [if_pos (by decide)] at hgy
        have:=congrArg Prod.fst hgy
        simp at this
        have hyv:y=10:=by
         have h10:(10:UInt8).toNat=10:=rfl
         omega
        rw [hyv];rfl
     ·rintro⟨rfl,h1⟩
      cases t with
      | nil=>cases h1
      | cons y t =>
        have:y=10:=by simpa using h1
        subst this
        have e13:(Utf8.encode 13).size=1:=by decide
        have e10:(Utf8.encode 10)=⟨#[10]⟩:=by decide
        refine⟨rfl,?_,?_⟩
        ·rw [hz,e13,bytesF,ByteArray.size_append,e10]
         show 1<1+(1+_);omega
        ·have hl:(bytesF (13::10::t)).size=1+(1+(bytesF t).size):=by rw [hz,e13,bytesF,ByteArray.size_append,e10];rfl
         have:=ext_get (bytesF (13::10::t)) 1 0 (by omega)
         rw [Nat.add_zero] at this
         rw [←this]
         have h3:=app_tail (Utf8.encode 13) (bytesF (10::t))
         rw [e13] at h3
         rw [show bytesF (13::10::t)=Utf8.encode 13++bytesF (10::t) from rfl,h3,bytesF,e10]
         exact get_app #[10] _ 0 (by simp)
    by_cases hk:x=13∧t.head? = some 10
    ·rw [if_pos (key.2 hk),if_pos hk]
     obtain⟨rfl,h1⟩:=hk
     cases t with
     | nil=>cases h1
     | cons y t =>
       have:y=10:=by simpa using h1
       subst this
       have e13:(Utf8.encode 13).size=1:=by decide
       have e10:(Utf8.encode 10).size=1:=by decide
       rw [List.take_succ_cons,List.take_succ_cons,List.take_zero,bytesF,bytesF,ByteArray.size_append,ByteArray.size_append,e13,e10]
       rfl
    ·rw [if_neg (fun h=>hk (key.1 h)),if_neg hk,List.take_succ_cons,List.take_zero,hone]
   ·rw [if_neg (by rintro (e | e);exact hnb e;exact ha e),if_neg ha,List.take_succ_cons]
    have:=more_runes x 31 1 x [x] t (fun r hr=>h r (by simp [hr]))
    rw [hone] at this
    exact this
def sameP (x y:Int):Prop:=aloneB x=aloneB y∧(kindI x=2↔kindI y=2)∧joinerB x=joinerB y∧regionalB x=regionalB y∧pictureB x=pictureB y∧partI x=partI y∧(x=8205↔y=8205)∧(x=13↔y=13)∧(x=10↔y=10)
theorem sameP.refl (x:Int):sameP x x:=⟨rfl,Iff.rfl,rfl,rfl,rfl,rfl,Iff.rfl,Iff.rfl,Iff.rfl⟩
theorem goes_same {x z y x' z' y':Int} (hx:sameP x x') (hz:sameP z z') (hy:sameP y y') (n:Nat):goesOn x z y n=goesOn x' z' y' n:=by
 obtain⟨_,_,_,x4,x5,_,_,_,_⟩:=hx
 obtain⟨_,_,_,_,_,z6,z7,_,_⟩:=hz
 obtain⟨_,y2,y3,y4,y5,y6,_,_,_⟩:=hy
 unfold goesOn goesB
 rw [y3,x4,y4,x5,y5,z6,y6,show decide (kindI y=2)=decide (kindI y'=2) from decide_eq_decide.2 y2,show decide (z=8205)=decide (z'=8205) from decide_eq_decide.2 z7]
inductive Alike:List Int→List Int→Prop
 | nil:Alike [] []
 | cons {x y:Int} {l m:List Int}:sameP x y→Alike l m→Alike (x::l) (y::m)
theorem Alike.refl:∀l:List Int,Alike l l
 | []=>.nil
 | x::t=>.cons (sameP.refl x) (Alike.refl t)
theorem more_same {x x':Int} (hx:sameP x x'):∀(f:Nat) {l m:List Int} (n:Nat) {z z':Int},Alike l m→sameP z z'→moreR x f l n z=moreR x' f m n z'
 | 0,_,_,_,_,_,_,_=>rfl
 | f+1,_,_,n,z,z',.nil,hz=>rfl
 | f+1,_,_,n,z,z',.cons (x:=y) (y:=y') h t,hz=>by rw [moreR,moreR,goes_same hx hz h n,more_same hx f (n+1) t h]
theorem next_same {l m:List Int} (h:Alike l m):nextR l=nextR m:=by
 cases h with
 | nil=>rfl
 | cons hx ht =>
   rename_i x y l m
   rw [nextR,nextR,hx.1,more_same hx 31 1 ht hx]
   have e13:=hx.2.2.2.2.2.2.2.1
   have hh:(l.head? = some 10)↔(m.head? = some 10):=by
    cases ht with
    | nil=>exact Iff.rfl
    | cons h _ =>
      have:=h.2.2.2.2.2.2.2.2
      simp [this]
   have:(x=13∧l.head? = some 10)↔(y=13∧m.head? = some 10):=by rw [e13,hh]
   simp only [this]
theorem Alike.len {l m:List Int} (h:Alike l m):l.length=m.length:=by
 induction h with
 | nil=>rfl
 | cons _ _ ih=>rw [List.length_cons,List.length_cons,ih]
theorem one_cluster {c:ByteArray} (hb:badI c=false) (hn:nextI c=c.size) {own:List Int} (hv:validAll own) (ha:Alike (runesI c) own):nextI (bytesF own)=(bytesF own).size:=by
 have hc:bytesF (runesI c)=c:=good_bytes c.size c (Nat.le_refl _) hb
 have h1:=next_runes (runesI c) (runes_valid c.size c (Nat.le_refl _))
 rw [hc,hn] at h1
 have h2:=bytesF_take_size (runesI c) (nextR (runesI c)) (by rw [←h1,hc])
 rw [next_runes own hv,←next_same ha,List.take_of_length_le (by rw [←ha.len];exact h2)]
end
section
instance (x y:Int):Decidable (sameP x y):=by unfold sameP;exact inferInstance
def mirL:List Int:=brL++[60,65308,62,65310,171,187,8249,8250,8804,8805]
theorem mirL_all:mirL.all (fun r=>decide (sameP r (mirrorI r))&&validRune (mirrorI r))=true:=by decide +kernel
theorem brL_len:brL.length=30:=by decide
theorem mirror_in (r:Int):mirrorI r=r∨r∈mirL:=by
 by_cases h:∃j,j<30∧ith brL j=r
 ·obtain⟨j,hj,e⟩:=h
  right
  unfold mirL
  refine List.mem_append.2 (.inl ?_)
  rw [←e]
  exact List.mem_of_getElem? (ith_get (by rw [brL_len];exact hj))
 ·have hm:=pairI_miss r (fun j hj e=>h ⟨j,hj,e⟩)
  unfold mirrorI
  rw [hm]
  by_cases h2:r∈mirL
  ·exact .inr h2
  ·left
   have h3:r ∉ [60,65308,62,65310,171,187,8249,8250,8804,(8805:Int)]:=fun h=>h2 (List.mem_append.2 (.inr h))
   simp at h3
   obtain⟨a1,a2,a3,a4,a5,a6,a7,a8,a9,a10⟩:=h3
   rw [if_neg (by decide),if_neg (by rintro (e | e);exact a1 e;exact a2 e),if_neg (by rintro (e | e);exact a3 e;exact a4 e),if_neg a5,if_neg a6,if_neg (by rintro (e | e);exact a7 e;exact a8 e),if_neg (by rintro (e | e);exact a9 e;exact a10 e)]
theorem mirror_same (r:Int):sameP r (mirrorI r):=by
 rcases mirror_in r with h | h
 ·rw [h];exact sameP.refl r
 ·have:=List.all_eq_true.1 mirL_all r h
  rw [Bool.and_eq_true,decide_eq_true_eq] at this
  exact this.1
theorem mirror_valid (r:Int) (hv:validRune r=true):validRune (mirrorI r)=true:=by
 rcases mirror_in r with h | h
 ·rw [h];exact hv
 ·have:=List.all_eq_true.1 mirL_all r h
  rw [Bool.and_eq_true] at this
  exact this.2
end
end Go.Proofs.YtlbclfmbejjneaaGreatDoor
