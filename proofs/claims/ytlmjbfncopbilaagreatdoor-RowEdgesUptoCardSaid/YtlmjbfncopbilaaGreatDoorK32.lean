/- Part 32 (merged by a program): lemmas of no further condition than each states. -/
import Derived.Test.YtlmjbfncopbilaaGreatDoorK31
namespace Go.Proofs.YtlmjbfncopbilaaGreatDoor
set_option linter.unusedVariables false
set_option linter.unusedSimpArgs false
section
open Go.RowKit Go.Proofs Go.Shelf
attribute [local go_sem] Oper.semAt_some
theorem Tryz.info_piece:(Tryz.prog.info? 98).map (fun i=>(i.zero,i.size,i.bytes))=some (some (.agg #[.int .i64 0,.int .i64 0,.int .i64 0,.int .i64 0,.int .u8 0,.string ⟨#[]⟩,.string ⟨#[]⟩,.int .i64 0,.int .i64 0,.int .i64 0]),10,96):=by kernel_rfl
def rowA5 (ra rl lev rwd fin:Int):Value:=.agg #[.int .i64 ra,.int .i64 rl,.int .u8 lev,.int .i64 rwd,.int .i8 fin]
def FdJ (w:World) (b n:Nat) (s:ByteArray) (sv:Value) (fr tt base:Nat) (wide:Int) (pre:List (PieceOf s)) (W:World):Prop :=
 Boxed W w.heap.size 87 (.pointer (some ⟨b,0,none⟩))∧(∃lv,LdB W b lv sv fr tt base wide∧OwnS pcE 98 W w.heap.size lv (findF (inL fr tt (pre.map (·.1))) 0))∧Boxed W n 3 (.int .i64 (chars (inL fr tt (pre.map (·.1))))) ∧
  Boxed W (n+1) 9 (.string s)∧chars (inL fr tt (pre.map (·.1)))≤pre.length*2097152∧Below b w W
theorem LdB.kept {X Y:World} {b:Nat} {lv sv:Value} {fr tt base:Nat} {wide:Int} (h:LdB X b lv sv fr tt base wide) {row:Option Nat} (hg:X.grownBy Y row) (hrow:∀k,row=some k→∃o,X.heap[k]? = some o∧o.isCells=false):LdB Y b lv sv fr tt base wide :=
 (hg.block b (Array.getElem?_eq_some_iff.1 h).1 (fun e=>by
   obtain⟨o,ho,hc⟩:=hrow _ e.symm
   rw [show X.heap[b]? = _ from h] at ho
   cases ho;cases hc)).trans h
theorem OwnS.kept {α:Type} {E:Enc α} {e:Nat} {X Y:World} {base:Nat} {v:Value} {l:List α} (h:OwnS E e X base v l) {row:Option Nat} (hg:X.grownBy Y row) (hrow:∀k,row=some k→∃o,X.heap[k]? = some o∧o.isCells=false):OwnS E e Y base v l:=by
 refine World.ownsRow.kept h hg ?_
 rcases h.2 with ⟨h,_⟩ | ⟨g,cap,cur,h,_,hgb,_⟩
 ·rw [h];exact .inl rfl
 ·rw [h]
  refine .inr fun e'=>?_
  obtain⟨o,ho,hc⟩:=hrow _ e'.symm
  rw [hgb] at ho
  cases ho;cases hc
theorem farS {W W':World} {b t f1 f2 base e size n:Nat} {x:Array Value} {v:Value} {xs:List Value} (h:W.heap[b]? = some (.cells x t (f1,f2))) (ho:W.ownsRow base e size v n xs) (ht:t≠e) (hg:W.grownBy W' v.ownBlock) :
 W'.heap[b]? = some (.cells x t (f1,f2)):=by
 refine (hg.block b (Array.getElem?_eq_some_iff.1 h).1 ?_).trans h
 rcases ho.2 with ⟨rfl,_⟩ | ⟨g,cap,cur,rfl,_,hgb,_⟩
 ·intro e;cases e
 ·intro e
  cases e
  rw [h] at hgb
  cases hgb
  exact ht rfl
theorem newS (W:World) (t:Nat) (xs:List Value):∀j u,xs[j]? = some u→(W.alloc (.cells xs.toArray t)).cell? ((⟨W.heap.size,0,none⟩:Addr).add j)=some u:=fun j u hj=>by
 have h:=World.cell?_alloc_mark W xs.toArray t (0,0) j
 rw [Addr.add_lit,Nat.zero_add]
 refine h.trans ?_
 simpa using hj
structure FdS (w:World) (b n:Nat) (sv:Value) (base:Nat) (wide:Int) (W:World):Prop where
 t8:T8 W
 ptr:Boxed W w.heap.size 87 (.pointer (some ⟨b,0,none⟩))
 ld:∃x y,LdB W b (.slice none 0 0) sv x y base wide
 bel:Below b w W
 sz:n≤W.heap.size
theorem FdS.below {w:World} {b n:Nat} {sv:Value} {base:Nat} {wide:Int} {W W':World} (h:FdS w b n sv base wide W) (hn:w.heap.size<n) (hbw:b<w.heap.size) (hb:Below W.heap.size W W'):FdS w b n sv base wide W':=by
 obtain⟨h1,h2,⟨x,y,h3⟩,h4,h5⟩:=h
 exact⟨h1.below rfl hb,(hb.block _ (by omega)).trans h2,⟨x,y,h3.below hb (by omega)⟩,h4.trans (hb.mono (by omega)),Nat.le_trans h5 hb.size⟩
theorem FdS.drew {w:World} {b n:Nat} {sv:Value} {base:Nat} {wide:Int} {W:World} (h:FdS w b n sv base wide W):FdS w b n sv base wide W.drew :=
 ⟨h.t8,h.ptr,h.ld,h.bel.drew,h.sz⟩
theorem FdS.set {w:World} {b n:Nat} {sv:Value} {base:Nat} {wide:Int} {W:World} (h:FdS w b n sv base wide W) (hg3:Tryz.lays197_ren.g 3<b) (hg4:Tryz.lays197_ren.g 4<b) (hbw:b<w.heap.size) (i x:Nat) (hi:i=2∨i=3):FdS w b n sv base wide (W.setCell ⟨b,i,none⟩ (.int .i64 x)):=by
 obtain⟨h1,h2,⟨y,z,h3⟩,h4,h5⟩:=h
 have hb:Below b W (W.setCell ⟨b,i,none⟩ (.int .i64 x)):=(Below.refl _ W).setCell (p:=⟨b,i,none⟩) (Nat.le_refl _) _
 refine⟨h1.keep hg3 hg4 hb,box_other h2 (by omega),?_,h4.trans hb,?_⟩
 ·rcases hi with rfl | rfl
  ·exact⟨x,z,h3.set2 x⟩
  ·exact⟨y,x,h3.set3 x⟩
 ·exact Nat.le_trans h5 hb.size
set_option maxRecDepth 100000 in
set_option maxHeartbeats 2000000 in
theorem rFind_any (s:ByteArray) (hs:s.size≤2097152) (ra rl lev rwd fin:Int) (b:Nat) (sv:Value) (base:Nat) (wide:Int) (w:World) (hT:T8 w) (hg3:Tryz.lays197_ren.g 3<b) (hg4:Tryz.lays197_ren.g 4<b) (hL:LdB w b (.slice none 0 0) sv 0 0 base wide) :
 Calls Tryz.prog 83 #[.pointer (some ⟨b,0,none⟩),.string s,rowA5 ra rl lev rwd fin] w fun e w'=>e=.returned (.tuple #[]) ∧
  ∃lv,LdB w' b lv sv (rowFr s ra) (rowTo s ra rl) base wide∧OwnS pcE 98 w' w.heap.size lv (foundI s (rowFr s ra) (rowTo s ra rl))∧Below b w w':=by
 obtain⟨i0,hi0,hz0,hz1,hz2⟩:=info_parts Tryz.info_piece
 obtain⟨m0,hm0⟩:∃m0,ra.toNat=m0:=⟨_,rfl⟩
 obtain⟨m1,hm1⟩:∃m1,rl.toNat=m1:=⟨_,rfl⟩
 obtain⟨A,hA⟩:∃A,min m0 s.size=A:=⟨_,rfl⟩
 obtain⟨D,hD⟩:∃D,min m1 (s.size-A)=D:=⟨_,rfl⟩
 obtain⟨E,hE⟩:∃E,A+D=E:=⟨_,rfl⟩
 have e1:max ra 0=(m0:Int):=by omega
 have e2:min (m0:Int) (s.size:Int)=(A:Int):=by omega
 have e3:max rl 0=(m1:Int):=by omega
 have e4:min (m1:Int) ((s.size:Int)-(A:Int))=(D:Int):=by omega
 have hAs:A≤s.size:=by omega
 have hEs:E≤s.size:=by omega
 have hfr:rowFr s ra=upB s A:=by unfold rowFr rowA;rw [hm0,hA]
 have htt:rowTo s ra rl=upB s E:=by unfold rowTo rowB rowA;rw [hm0,hA,hm1,hD,hE]
 rw [hfr,htt]
 obtain⟨fr,hfr2⟩:∃fr,upB s A=fr:=⟨_,rfl⟩
 obtain⟨tt,htt2⟩:∃tt,upB s E=tt:=⟨_,rfl⟩
 rw [hfr2,htt2]
 have hbs:b<w.heap.size:=hL.lt
 have HU1:Hid (∀W,T8 W→Calls Tryz.prog 125 #[.string s,.int .i64 A] W fun e w'=>e=.returned (.int .i64 fr)∧Below W.heap.size W w'):=lh fun W h=>hfr2▸rup_any s hs A W h
 have HU2:Hid (∀W,T8 W→Calls Tryz.prog 125 #[.string s,.int .i64 E] W fun e w'=>e=.returned (.int .i64 tt)∧Below W.heap.size W w'):=lh fun W h=>htt2▸rup_any s hs E W h
 clear hm0 hA hm1 hD hfr htt hfr2 htt2
 refine (callsIn_wide (n:=4)).1 ?_
 refine callsIn_of_wp_marks Tryz.func83 rfl trivial ?_ rfl
 simp only [Tryz.ntmps83,List.size_toArray,List.length_cons,List.length_nil,Nat.reduceAdd,Nat.reduceSub,Array.replicate_succ,Array.replicate_zero,List.push_toArray,List.append_toArray,List.nil_append,List.cons_append]
 unfold rowA5
 gi_upto_region 1 with (fail)
 obtain⟨j1,j2,hb0⟩:=two_alloc w (.cells #[.pointer (some ⟨b,0,none⟩)] 87 (0,0)) (.cells #[.int .i64 ra,.int .i64 rl,.int .u8 lev,.int .i64 rwd,.int .i8 fin] 24 (0,0))
 have hs0:((w.alloc (.cells #[.pointer (some ⟨b,0,none⟩)] 87)).alloc (.cells #[.int .i64 ra,.int .i64 rl,.int .u8 lev,.int .i64 rwd,.int .i8 fin] 24)).heap.size=w.heap.size+2:=by rw [World.size_alloc,World.size_alloc]
 generalize (w.alloc (.cells #[.pointer (some ⟨b,0,none⟩)] 87)).alloc (.cells #[.int .i64 ra,.int .i64 rl,.int .u8 lev,.int .i64 rwd,.int .i8 fin] 24)=W1 at j1 j2 hb0 hs0 ⊢
 have q0:W1.cell? ⟨w.heap.size+1,0,none⟩=some (.int .i64 ra):=by simp [World.cell?,j2]
 have q1:W1.cell? ⟨w.heap.size+1,1,none⟩=some (.int .i64 rl):=by simp [World.cell?,j2]
 have k1:Boxed W1 w.heap.size 87 (.pointer (some ⟨b,0,none⟩)):=j1
 have hF:FdS w b (w.heap.size+2) sv base wide W1:=⟨hT.below rfl hb0,k1,⟨0,0,hL.below hb0 hbs⟩,hb0.mono (by omega),by omega⟩
 have HF:=lh hF
 have hAi:(A:Int)≤(s.size:Int):=by omega
 have hsz:(s.size:Int)≤2097152:=by omega
 have hDi:(D:Int)≤2097152:=by omega
 have HS0:=lh hs0
 clear j1 j2 k1 hF
 gi_upto_region 3 with (fail)
 clear q0 q1
 have HUU1:Hid (∀W,FdS w b (w.heap.size+2) sv base wide W→Calls Tryz.prog 125 #[.string s,.int .i64 A] W fun e w'=>e=.returned (.int .i64 fr)∧FdS w b (w.heap.size+2) sv base wide w'):=lh fun W h=>(HU1.out W h.t8).mono fun e w' ⟨h1,h2⟩=>⟨h1,h.below (by omega) hbs h2⟩
 have HUU2:Hid (∀W,FdS w b (w.heap.size+2) sv base wide W→Calls Tryz.prog 125 #[.string s,.int .i64 E] W fun e w'=>e=.returned (.int .i64 tt)∧FdS w b (w.heap.size+2) sv base wide w'):=lh fun W h=>(HU2.out W h.t8).mono fun e w' ⟨h1,h2⟩=>⟨h1,h.below (by omega) hbs h2⟩
 obtain⟨v2,hv2⟩:∃v2:World→Value,∀W,FdS w b (w.heap.size+2) sv base wide W→W.cell? ⟨b,2,none⟩=some (v2 W):=⟨fun W=>(W.cell? ⟨b,2,none⟩).getD undef,fun W h=>by obtain⟨_,_,h3⟩:=h.ld;simp [h3.cells]⟩
 obtain⟨v3,hv3⟩:∃v3:World→Value,∀W,FdS w b (w.heap.size+2) sv base wide W→W.cell? ⟨b,3,none⟩=some (v3 W):=⟨fun W=>(W.cell? ⟨b,3,none⟩).getD undef,fun W h=>by obtain⟨_,_,h3⟩:=h.ld;simp [h3.cells]⟩
 have HK:Hid (∀W,FdS w b (w.heap.size+2) sv base wide W→W.cell? ⟨w.heap.size,0,none⟩=some (.pointer (some ⟨b,0,none⟩))∧W.frozen? ⟨b,2,none⟩=false∧W.frozen? ⟨b,3,none⟩=false∧W.cell? ⟨b,2,none⟩=some (v2 W)∧W.cell? ⟨b,3,none⟩=some (v3 W)∧FdS w b (w.heap.size+2) sv base wide W) :=
  lh fun W h=>⟨h.ptr.cell,(by obtain⟨_,_,h3⟩:=h.ld;exact h3.frz 2),(by obtain⟨_,_,h3⟩:=h.ld;exact h3.frz 3),hv2 W h,hv3 W h,h⟩
 clear hv2 hv3
 have HSET:Hid (∀W i (x:Nat),FdS w b (w.heap.size+2) sv base wide W→(i=2∨i=3)→FdS w b (w.heap.size+2) sv base wide (W.setCell ⟨b,i,none⟩ (.int .i64 x))):=lh fun W i x h hi=>h.set hg3 hg4 hbs i x hi
 obtain⟨kc,f2,f3,k2',k3',hF⟩:=HK.out W1 HF.out
 clear HU1 HU2 e1 e2 e3 e4 hL hT hb0 hs0
 rw [show (A:Int)+(D:Int)=(E:Int) by omega]
 refine wpIn_wide.2 ?_
 go_region_held3 (fun w'=>w'.cell? ⟨w.heap.size,0,none⟩=some (.pointer (some ⟨b,0,none⟩))∧w'.frozen? ⟨b,2,none⟩=false∧w'.frozen? ⟨b,3,none⟩=false∧w'.cell? ⟨b,2,none⟩=some (v2 w')∧w'.cell? ⟨b,3,none⟩=some (v3 w')∧FdS w b (w.heap.size+2) sv base wide w')
  ((refine HK.out _ ?_;repeat (first | assumption | refine FdS.drew ?_ | refine HSET.out _ _ _ ?_ (by first | exact Or.inl rfl | exact Or.inr rfl))))
  ((first | (go_at_call 125;(with_reducible refine (HUU1.out _ (by repeat (first | assumption | refine FdS.drew ?_ | refine HSET.out _ _ _ ?_ (by first | exact Or.inl rfl | exact Or.inr rfl)))).mono ?_);rintro e w1 ⟨rfl,hF1⟩;have kc1:=(HK.out _ hF1).1;have f21:=(HK.out _ hF1).2.1;have f31:=(HK.out _ hF1).2.2.1;have k21:=(HK.out _ hF1).2.2.2.1;have k31:=(HK.out _ hF1).2.2.2.2.1) | (go_at_call 125;(with_reducible refine (HUU2.out _ (by repeat (first | assumption | refine FdS.drew ?_ | refine HSET.out _ _ _ ?_ (by first | exact Or.inl rfl | exact Or.inr rfl)))).mono ?_);rintro e w2 ⟨rfl,hF2⟩;have kc2:=(HK.out _ hF2).1;have f22:=(HK.out _ hF2).2.1;have f32:=(HK.out _ hF2).2.2.1;have k22:=(HK.out _ hF2).2.2.2.1;have k32:=(HK.out _ hF2).2.2.2.2.1)))
 have hW:∃W2,(w2.setCell ⟨b,2,none⟩ (.int .i64 (fr:Int))).setCell ⟨b,3,none⟩ (.int .i64 (tt:Int))=W2:=⟨_,rfl⟩
 obtain⟨W2,hW2⟩:=hW
 have hF3:FdS w b (w.heap.size+2) sv base wide W2:=hW2▸HSET.out _ 3 tt (HSET.out _ 2 fr hF2 (.inl rfl)) (.inr rfl)
 have hL2:LdB W2 b (.slice none 0 0) sv fr tt base wide:=by
  obtain⟨x,y,hl⟩:=hF2.ld
  exact hW2▸(hl.set2 fr).set3 tt
 obtain⟨hT2,k2,_,hb2,hz2'⟩:=hF3
 rw [hW2]
 clear hW2 hF1 hF2 kc1 f21 f31 k21 k31 kc2 f22 f32 k22 k32 HUU1 HUU2 HK HSET HF kc f2 f3 k2' k3' hF
 have hb3:=(Below.refl W2.heap.size W2).alloc (Nat.le_refl _) (.cells #[.int .i64 0] 3)
 have hx3:=World.alloc_heap_new W2 (.cells #[.int .i64 0] 3)
 have hs3:(W2.alloc (.cells #[.int .i64 0] 3)).heap.size=W2.heap.size+1:=World.size_alloc _ _
 obtain⟨n,hn⟩:∃n,W2.heap.size=n:=⟨_,rfl⟩
 gi_upto_region 5 with (fail)
 rw [hn] at hb3 hx3 hs3 hz2'
 generalize W2.alloc (.cells #[.int .i64 0] 3)=W3 at hb3 hx3 hs3 ⊢
 have r1:Boxed W3 w.heap.size 87 (.pointer (some ⟨b,0,none⟩)):=(hb3.block _ (by omega)).trans k2
 have r2:LdB W3 b (.slice none 0 0) sv fr tt base wide:=hL2.below hb3 (by omega)
 have r3:Boxed W3 n 3 (.int .i64 0):=hx3
 have r6:Below b w W3:=hb2.trans (hb3.mono (by omega))
 have hT3:T8 W3:=hT2.below hn.symm hb3
 clear hb3 hx3 k2 hL2 hb2 hT2 hn
 gi_wp2_with (fail)
 refine⟨trivial,?_⟩
 refine (callsIn_wide.2 (All_any s _)).mono ?_
 rintro e' W4 ⟨rfl,hW4⟩
 simp only [hs3]
 unfold itV
 have hb4:Below W3.heap.size W3 W4:=hW4▸(Below.refl _ _).alloc (Nat.le_refl _) _
 have hbs4:Boxed W4 (n+1) 9 (.string s):=by rw [←hs3,hW4];exact World.alloc_heap_new W3 _
 have hs4:W4.heap.size=n+2:=by rw [hW4,World.size_alloc,hs3]
 have p1:Boxed W4 w.heap.size 87 (.pointer (some ⟨b,0,none⟩)):=(hb4.block _ (by omega)).trans r1
 have p2:LdB W4 b (.slice none 0 0) sv fr tt base wide:=r2.below hb4 (by omega)
 have p3:Boxed W4 n 3 (.int .i64 0):=(hb4.block _ (by omega)).trans r3
 have p6:Below b w W4:=r6.trans (hb4.mono (by omega))
 have hT4:T8 W4:=hT3.below rfl hb4
 clear hW4 hb4 r1 r2 r3 r6 hT3
 gi_wp2_with (fail)
 refine wpIn_rangeFunc_ownF (F:=Fence.wide) rfl (by omega) (gf:=112) (lb:=#[.pointer (some ⟨n+1,0,none⟩)]) rfl trivial (enters_of Tryz.func112 (by kernel_rfl) rfl)
  (pieces_stops 3 (by omega) (n+1) b s (by omega) hg3 hg4 W4 (by omega) hbs4.cell hT4) (fun h k=>KpB.trans h k) (kpB_put (w:=W4) (by omega)) (Below.refl _ _) (fun _=>rfl)
  (FdJ w b n s sv fr tt base wide) (fun _ _ _=>False) ?hI (fun _ _ _ _ _ hs _ _=>hs) ?h0
  (fun x=>{ tmps:=#[.pointer (some ⟨b,0,none⟩),.string s,.agg #[.int .i64 ra,.int .i64 rl,.int .u8 lev,.int .i64 rwd,.int .i8 fin],.pointer (some ⟨w.heap.size,0,none⟩),undef,.pointer (some ⟨w.heap.size+1,0,none⟩),.int .i64 A,.int .i64 E,.pointer (some ⟨n,0,none⟩),.int .i64 x.1.1,.string x.1.2,undef,.pointer (some ⟨w.heap.size+1,0,none⟩),.int .i64 ra,.int .i64 m0,.string s,.int .i64 s.size,.int .i64 A,.int .i64 A,.pointer (some ⟨w.heap.size+1,1,none⟩),.int .i64 rl,.int .i64 m1,.string s,.int .i64 s.size,.int .i64 A,.int .i64 ((s.size:Int)-A),.int .i64 D,.int .i64 E,.pointer (some ⟨b,0,none⟩),.pointer (some ⟨b,0,none⟩),.string s,.int .i64 A,.int .i64 fr,.string s,.int .i64 E,.int .i64 tt,.pointer (some ⟨b,0,none⟩),.pointer (some ⟨b,2,none⟩),.pointer (some ⟨b,0,none⟩),.pointer (some ⟨b,3,none⟩),.string s,(.func (.func 112) #[] #[.pointer (some ⟨n+1,0,none⟩)]),.int .i64 x.1.1,.string x.1.2,undef,undef,undef,undef,undef,undef,undef,undef,undef,undef,undef,undef,undef,undef,undef,undef,undef,undef,undef,undef,undef,undef,undef,undef,undef,undef,undef,undef,undef,undef,undef,undef,undef,undef,undef,undef,undef],defers:=[] }) ?assign ?body ?done ?stop
 case hI =>
  rintro pre X Y row ⟨h1,⟨lv,h2,h3⟩,h4,h5,h6,h7⟩ hg hrow
  have hr:=fun k e=>(hrow k e).2
  exact⟨box_kept h1 hg hr,⟨lv,h2.kept hg hr,h3.kept hg hr⟩,box_kept h4 hg hr,box_kept h5 hg hr,h6,h7.grown hg (by have:=h7.size;omega) (fun k e=>by have:=(hrow k e).1;omega)⟩
 case h0=>exact⟨p1,⟨_,p2,OwnS.nil _ _ _⟩,p3,hbs4,by simp [chars,inL],p6⟩
 case assign =>
  intro l x W K hK
  gi_wp2_with (fail)
  exact hK
 case stop =>
  rintro D' c pre W hD' _ h _
  exact h.elim
 case done =>
  rintro D' xs W hD' hxs ⟨h1,⟨lv,h2,h3⟩,h4,h5,h6,h7⟩ hK
  rw [hxs] at h3
  have hgK:=grownBy_putObj' W D' (.deferred none)
  have hrK:∀k,some D'=some k→∃o,W.heap[k]? = some o∧o.isCells=false:=fun k e=>by cases e;exact⟨_,hK,rfl⟩
  have hfin:LdB (W.putObj D' (.deferred none)) b lv sv fr tt base wide∧OwnS pcE 98 (W.putObj D' (.deferred none)) w.heap.size lv (foundI s fr tt)∧Below b w (W.putObj D' (.deferred none)) :=
   ⟨h2.kept hgK hrK,h3.kept hgK hrK,h7.trans (belowK_b (w:=w) (by omega) W D' _ _ (by omega) hK rfl rfl)⟩
  clear h1 h2 h3 h4 h5 h6 h7 hxs p1 p2 p3 p6 hbs4 hT4
  gi_wp2_with (fail)
  refine⟨by simp,.inl ⟨_,_,rfl,run_takeDeferred hK,?_⟩⟩
  exact⟨_,results_none rfl _ _ _,rfl,lv,hfin⟩
 case body =>
  rintro l pre x W ⟨h1,⟨lv,h2,h3⟩,h4,h5,h6,h7⟩ hlt
  obtain⟨at',hat⟩:∃a,x.1.1=a:=⟨_,rfl⟩
  obtain⟨c,hcc⟩:∃c,x.1.2=c:=⟨_,rfl⟩
  have hx:=x.2
  rw [hat,hcc] at hx
  simp only [hat,hcc]
  have hpl:=pieces_len s
  obtain⟨L,hLL⟩:∃L,inL fr tt (pre.map (·.1))=L:=⟨_,rfl⟩
  have hsn:=inL_snoc fr tt (pre.map (·.1)) x.1
  have hms:(pre++[x]).map (·.1)=pre.map (·.1)++[x.1]:=by rw [List.map_append,List.map_singleton]
  rw [←hms,hLL,hat] at hsn
  have hLlen:L.length≤pre.length:=by
   rw [←hLL]
   have:=List.length_filter_le (fun p:Nat × ByteArray=>decide (fr≤p.1)&&decide (p.1<tt)) (pre.map (·.1))
   rw [List.length_map] at this
   exact this
  rw [hLL] at h3 h4 h6
  have c1:=h1.cell
  obtain⟨d0,d1,d2,d3,d4,d5⟩:=h2.cells
  have H1:=lh h1
  have H2:=lh h2
  have H3:=lh h3
  have H4:=lh h4
  have H5:=lh h5
  have H7:=lh h7
  have HSN:=lh hsn
  have hx1:x.1=(at',c):=by rw [←hat,←hcc]
  clear h1 h2 h3 h4 h5 h7 hsn hms hat hcc p1 p2 p3 p6 hbs4 hT4 hLL
  by_cases hin:fr≤at'∧at'<tt
  ·have HS:=lh (HSN.out.trans (congrArg (L++·) (if_pos hin)))
   obtain⟨i1,i2⟩:=hin
   have g1:¬ ((at':Int)<(fr:Int)):=by omega
   have g2:¬ ((at':Int) ≥ (tt:Int)):=by omega
   clear HSN
   gi_upto_region 9 with (fail)
   have hCN:=sCount_any c (by omega) W
   have hkc:(runesI c).length≤c.size:=runesF_len c c.size 0
   obtain⟨k,hk⟩:∃k,(runesI c).length=k:=⟨_,rfl⟩
   rw [hk] at hCN hkc
   obtain⟨N,hN⟩:∃N,chars L=N:=⟨_,rfl⟩
   rw [hN] at h6
   have HN:=lh hN
   have HKc:=lh hk
   have HCN:=lh hCN
   have hN2:N≤4398046511104:=by
    have:pre.length*2097152≤2097152*2097152:=Nat.mul_le_mul_right _ (by omega)
    omega
   clear hCN hN hk c1 d0 d1 d2 d3 d4 d5
   gi_wp2_with (fail)
   refine⟨trivial,?_⟩
   refine (CallsIn.inRound l (callsIn_wide.2 HCN.out)).mono ?_
   rintro e' W5 ⟨rfl,hb5⟩
   have hWs:=H7.out.size
   have hnW:n+1<W.heap.size:=(Array.getElem?_eq_some_iff.1 H5.out).1
   have q1:Boxed W5 w.heap.size 87 (.pointer (some ⟨b,0,none⟩)):=(hb5.block _ (by omega)).trans H1.out
   have q2:LdB W5 b lv sv fr tt base wide:=H2.out.below hb5 (by omega)
   have q3:OwnS pcE 98 W5 w.heap.size lv (findF L 0):=H3.out.keep hb5
   have q4:Boxed W5 n 3 (.int .i64 N):=(hb5.block _ (by omega)).trans (HN.out▸H4.out)
   have q5:Boxed W5 (n+1) 9 (.string s):=(hb5.block _ (by omega)).trans H5.out
   have q7:Below b W W5:=hb5.mono (by omega)
   obtain⟨a,cap,hlv,hcap,_⟩:=q3.slice
   rw [findF_len] at hlv hcap
   subst hlv
   have kB:=q1.cell
   have kb:=q2.cells.1
   have kn:=q4.cell
   have fb:=q2.frz 0
   have fn:=q4.frozen
   have hne1:b≠w.heap.size:=by omega
   have hne2:b≠n:=by omega
   have hW5:w.heap.size<W5.heap.size:=by have:=hb5.size;omega
   have Q1:=lh q1
   have Q2:=lh q2
   have Q3:=lh q3
   have Q4:=lh q4
   have Q5:=lh q5
   have Q7:=lh q7
   have HK5:=lh (keeps_below hb5)
   have HX1:=lh hx1
   have HC5:Hid (W.cell? ⟨n+1,0,none⟩=some (.string s)):=lh H5.out.cell
   clear q1 q2 q3 q4 q5 q7 hb5 H1 H2 H3 H4 H5 HCN hx1
   gi_upto_region 10 with (fail)
   obtain⟨S,hS1,hS2⟩:∃S:World→Prop,(∀w',S w'→w'.cell? ⟨w.heap.size,0,none⟩=some (.pointer (some ⟨b,0,none⟩))∧w'.cell? ⟨b,0,none⟩=some (.slice a L.length cap)∧w'.cell? ⟨n,0,none⟩=some (.int .i64 N)) ∧
    ∀w',w'.cell? ⟨w.heap.size,0,none⟩=some (.pointer (some ⟨b,0,none⟩))→w'.cell? ⟨b,0,none⟩=some (.slice a L.length cap)→w'.cell? ⟨n,0,none⟩=some (.int .i64 N)→S w' :=
    ⟨fun w'=>w'.cell? ⟨w.heap.size,0,none⟩=some (.pointer (some ⟨b,0,none⟩))∧w'.cell? ⟨b,0,none⟩=some (.slice a L.length cap)∧w'.cell? ⟨n,0,none⟩=some (.int .i64 N),fun _ h=>h,fun _ x y z=>⟨x,y,z⟩⟩
   have kp0:∀p:WIn S,p.w.cell? ⟨w.heap.size,0,none⟩=some (.pointer (some ⟨b,0,none⟩)):=fun p=>(hS1 _ p.h).1
   have kp1:∀p:WIn S,p.w.cell? ⟨b,0,none⟩=some (.slice a L.length cap):=fun p=>(hS1 _ p.h).2.1
   have kp2:∀p:WIn S,p.w.cell? ⟨n,0,none⟩=some (.int .i64 N):=fun p=>(hS1 _ p.h).2.2
   have HS':=lh hS2
   have hne:Nonempty (WIn S):=⟨⟨W5,hS2 _ kB kb kn⟩⟩
   clear hS1 hS2
   have g5:(N:Int)≤4398046511104:=by omega
   have g6:(k:Int)≤2097152:=by omega
   have g7:(c.size:Int)≤2097152:=by omega
   have hLl:L.length≤2097152:=by omega
   refine wpIn_region_segl S [14,0] (by kernel_rfl) (by kernel_rfl) (fun _ _ _ _ h=>h) (fun _ _ h=>h) (HS'.out _ kB kb kn) ?_
   simp only [segH,nopLast,nop,lastOf,List.take_succ_cons,List.take_zero,List.drop_succ_cons,List.drop_zero]
   repeat (go_big_quiet_step (fail))
   refine wpQuiet_nil ?_
   intro K hK
   have HKK:=lh hK
   clear hK
   go_wp2_with (fail)
   have hbk:Below W5.heap.size W5 (W5.alloc (.cells #[.int .i64 at',.int .i64 c.size,.int .i64 N,.int .i64 ((N:Int)+k),.int .u8 0,.string ⟨#[]⟩,.string ⟨#[]⟩,.int .i64 0,.int .i64 0,.int .i64 0] 98)):=(Below.refl _ _).alloc (Nat.le_refl _) _
   refine HKK.out _ _ (HS'.out _ (cell_bl hbk (cell_lt kB) kB) (cell_bl hbk (cell_lt kb) kb) (cell_bl hbk (cell_lt kn) kn)) ?_
   clear HKK
   refine wpQuiet_nil ?_
   intro K hK
   have HKK:=lh hK
   have HBK:=lh hbk
   have ho3:(W5.alloc (.cells #[.int .i64 at',.int .i64 c.size,.int .i64 N,.int .i64 ((N:Int)+k),.int .u8 0,.string ⟨#[]⟩,.string ⟨#[]⟩,.int .i64 0,.int .i64 0,.int .i64 0] 98)).ownsRow w.heap.size 98 10 (.slice a L.length cap) L.length ((findF L 0).flatMap pcE.enc):=by
    have h:=Q3.out
    unfold OwnS at h
    rw [findF_len] at h
    exact h.alloc _
   have HO3:=lh ho3
   clear hK hbk ho3 kp0 kp1 kp2
   go_wp2_with (at_builtin;refine wpList_append_own_at _ rfl _ _ 92 rfl w.heap.size 98 i0 (.agg #[.int .i64 0,.int .i64 0,.int .i64 0,.int .i64 0,.int .u8 0,.string ⟨#[]⟩,.string ⟨#[]⟩,.int .i64 0,.int .i64 0,.int .i64 0]) 10 96 Tryz.underlying92 hi0 hz0 hz1 hz2 rfl (by decide) _ L.length _ rfl HO3.out ⟨W5.heap.size,0,none⟩ 1 1 [.int .i64 at',.int .i64 c.size,.int .i64 N,.int .i64 ((N:Int)+k),.int .u8 0,.string ⟨#[]⟩,.string ⟨#[]⟩,.int .i64 0,.int .i64 0,.int .i64 0] rfl rfl (newS _ _ _) (by simp [Value.oneCell']) (by unfold maxLen;omega) (by omega) (by simp;omega) ?_;intro v' w6 ho hg _ _)
   obtain⟨a',cap',hv',_,_⟩:=own_slice ho
   subst hv'
   replace hg:(W5.alloc (.cells #[.int .i64 at',.int .i64 c.size,.int .i64 N,.int .i64 ((N:Int)+k),.int .u8 0,.string ⟨#[]⟩,.string ⟨#[]⟩,.int .i64 0,.int .i64 0,.int .i64 0] 98)).drew.grownBy w6 (Value.slice a L.length cap).ownBlock:=hg
   have A1:Boxed (W5.alloc (.cells #[.int .i64 at',.int .i64 c.size,.int .i64 N,.int .i64 ((N:Int)+k),.int .u8 0,.string ⟨#[]⟩,.string ⟨#[]⟩,.int .i64 0,.int .i64 0,.int .i64 0] 98)).drew w.heap.size 87 (.pointer (some ⟨b,0,none⟩)):=(HBK.out.block _ hW5).trans Q1.out
   have A2:LdB (W5.alloc (.cells #[.int .i64 at',.int .i64 c.size,.int .i64 N,.int .i64 ((N:Int)+k),.int .u8 0,.string ⟨#[]⟩,.string ⟨#[]⟩,.int .i64 0,.int .i64 0,.int .i64 0] 98)).drew b (.slice a L.length cap) sv fr tt base wide:=(HBK.out.block _ (by omega)).trans Q2.out
   have hnW5:n<W5.heap.size:=(Array.getElem?_eq_some_iff.1 Q4.out).1
   have hnW6:n+1<W5.heap.size:=(Array.getElem?_eq_some_iff.1 Q5.out).1
   have A4:Boxed (W5.alloc (.cells #[.int .i64 at',.int .i64 c.size,.int .i64 N,.int .i64 ((N:Int)+k),.int .u8 0,.string ⟨#[]⟩,.string ⟨#[]⟩,.int .i64 0,.int .i64 0,.int .i64 0] 98)).drew n 3 (.int .i64 N):=(HBK.out.block _ hnW5).trans Q4.out
   have A5:Boxed (W5.alloc (.cells #[.int .i64 at',.int .i64 c.size,.int .i64 N,.int .i64 ((N:Int)+k),.int .u8 0,.string ⟨#[]⟩,.string ⟨#[]⟩,.int .i64 0,.int .i64 0,.int .i64 0] 98)).drew (n+1) 9 (.string s):=(HBK.out.block _ hnW6).trans Q5.out
   have hoA:(W5.alloc (.cells #[.int .i64 at',.int .i64 c.size,.int .i64 N,.int .i64 ((N:Int)+k),.int .u8 0,.string ⟨#[]⟩,.string ⟨#[]⟩,.int .i64 0,.int .i64 0,.int .i64 0] 98)).drew.ownsRow w.heap.size 98 10 (.slice a L.length cap) L.length ((findF L 0).flatMap pcE.enc):=HO3.out
   have B1:Boxed w6 w.heap.size 87 (.pointer (some ⟨b,0,none⟩)):=farS A1 hoA (by decide) hg
   have B2:LdB w6 b (.slice a L.length cap) sv fr tt base wide:=farS A2 hoA (by decide) hg
   have B4:Boxed w6 n 3 (.int .i64 N):=farS A4 hoA (by decide) hg
   have B5:Boxed w6 (n+1) 9 (.string s):=farS A5 hoA (by decide) hg
   have hbA:Below w.heap.size W5 w6:=by
    have h1:Below w.heap.size W5 (W5.alloc (.cells #[.int .i64 at',.int .i64 c.size,.int .i64 N,.int .i64 ((N:Int)+k),.int .u8 0,.string ⟨#[]⟩,.string ⟨#[]⟩,.int .i64 0,.int .i64 0,.int .i64 0] 98)).drew:=((Below.refl w.heap.size W5).alloc (by omega) _).drew
    exact h1.grown hg (by have:=h1.size;omega) (fun k hk=>(hoA.lt k hk).1)
   have hkA:KeepsOthers W5 w6:=(keeps_below (A:=W5) (B:=(W5.alloc (.cells #[.int .i64 at',.int .i64 c.size,.int .i64 N,.int .i64 ((N:Int)+k),.int .u8 0,.string ⟨#[]⟩,.string ⟨#[]⟩,.int .i64 0,.int .i64 0,.int .i64 0] 98)).drew) HBK.out.drew).trans (KeepsOthers.of_grownBy hg (fun j o hj ho'=>by
    rcases hoA.2 with ⟨h1,_⟩ | ⟨g,cap',cur,h1,_,hgb,_⟩
    ·rw [h1] at hj;cases hj
    ·rw [h1] at hj
     have:g=j:=by
      have:=Option.some.inj hj
      exact this
     subst this
     rw [hgb] at ho'
     cases ho'
     rfl))
   have HB1:=lh B1
   have HB2:=lh B2
   have HB4:=lh B4
   have HB5:=lh B5
   have HBA:=lh hbA
   have HKA:=lh hkA
   have HO:=lh ho
   clear hg A1 A2 A4 A5 hoA B1 B2 B4 B5 hbA hkA ho HBK HO3
   refine HKK.out _ _ (HS'.out _ HB1.out.cell HB2.out.cells.1 HB4.out.cell) ?_
   clear HKK
   simp only [Act.put,List.setIfInBounds_toArray,List.set_cons_succ,List.set_cons_zero]
   repeat (go_big_quiet_step (fail))
   refine wpQuiet_nil ?_
   change wpList _ _ _ _ _ _
   have kb6:=HB2.out.cells.1
   have fb6:=HB2.out.frz 0
   clear HS' kB kb kn fb fn hne
   go_wp2_with (fail)
   have C2:LdB (w6.setCell ⟨b,0,none⟩ (.slice a' (L.length+1) cap')) b (.slice a' (L.length+1) cap') sv fr tt base wide:=HB2.out.set0 _
   have C1:Boxed (w6.setCell ⟨b,0,none⟩ (.slice a' (L.length+1) cap')) w.heap.size 87 (.pointer (some ⟨b,0,none⟩)):=box_other HB1.out (by omega)
   have C4:Boxed (w6.setCell ⟨b,0,none⟩ (.slice a' (L.length+1) cap')) n 3 (.int .i64 N):=box_other HB4.out (by omega)
   have C5:Boxed (w6.setCell ⟨b,0,none⟩ (.slice a' (L.length+1) cap')) (n+1) 9 (.string s):=box_other HB5.out (by omega)
   have CO:(w6.setCell ⟨b,0,none⟩ (.slice a' (L.length+1) cap')).ownsRow w.heap.size 98 10 (.slice a' (L.length+1) cap') (L.length+1) ((findF L 0).flatMap pcE.enc++[.int .i64 at',.int .i64 c.size,.int .i64 N,.int .i64 ((N:Int)+k),.int .u8 0,.string ⟨#[]⟩,.string ⟨#[]⟩,.int .i64 0,.int .i64 0,.int .i64 0]) :=
    row_other HO.out (ne_row HO.out HB2.out (by decide))
   have CB0:Below b W5 w6:=HBA.out.mono (by omega)
   have CB:Below b W5 (w6.setCell ⟨b,0,none⟩ (.slice a' (L.length+1) cap')):=CB0.setCell (p:=⟨b,0,none⟩) (Nat.le_refl _) _
   have CK:KeepsOthers W5 (w6.setCell ⟨b,0,none⟩ (.slice a' (L.length+1) cap')):=HKA.out.trans (KeepsOthers.setCell _ _ _)
   clear HB1 HB2 HB4 HB5 HO HBA HKA kb6 fb6
   generalize w6.setCell ⟨b,0,none⟩ (.slice a' (L.length+1) cap')=W7 at C1 C2 C4 C5 CO CB CK ⊢
   have kn7:=C4.cell
   have fn7:=C4.frozen
   have D1:=lh C1
   have D2:=lh C2
   have D4:=lh C4
   have D5:=lh C5
   have DO:=lh CO
   have DB:=lh CB
   have DK:=lh CK
   clear C1 C2 C4 C5 CO CB CK
   gi_wp2_with (fail)
   have E1:Boxed (W7.setCell ⟨n,0,none⟩ (.int .i64 ((N:Int)+k))) w.heap.size 87 (.pointer (some ⟨b,0,none⟩)):=box_other D1.out (by omega)
   have E2:LdB (W7.setCell ⟨n,0,none⟩ (.int .i64 ((N:Int)+k))) b (.slice a' (L.length+1) cap') sv fr tt base wide:=D2.out.other (by omega)
   have E4:Boxed (W7.setCell ⟨n,0,none⟩ (.int .i64 ((N:Int)+k))) n 3 (.int .i64 ((N:Int)+k)):=set_at D4.out _
   have E5:Boxed (W7.setCell ⟨n,0,none⟩ (.int .i64 ((N:Int)+k))) (n+1) 9 (.string s):=box_other D5.out (by omega)
   have EO:(W7.setCell ⟨n,0,none⟩ (.int .i64 ((N:Int)+k))).ownsRow w.heap.size 98 10 (.slice a' (L.length+1) cap') (L.length+1) ((findF L 0).flatMap pcE.enc++[.int .i64 at',.int .i64 c.size,.int .i64 N,.int .i64 ((N:Int)+k),.int .u8 0,.string ⟨#[]⟩,.string ⟨#[]⟩,.int .i64 0,.int .i64 0,.int .i64 0]) :=
    row_other DO.out (ne_row DO.out D4.out (by decide))
   have EB:Below b W5 (W7.setCell ⟨n,0,none⟩ (.int .i64 ((N:Int)+k))):=DB.out.setCell (p:=⟨n,0,none⟩) (show b≤n by omega) _
   have hb45:Below b W W5:=Q7.out
   have hfl:findF (L++[x.1]) 0=findF L 0++[pc0 at' c.size N (N+k)]:=by
    rw [findF_snoc]
    have e1:0+((L.map (·.2)).flatMap runesI).length=N:=by rw [Nat.zero_add];exact HN.out
    rw [e1,HX1.out]
    show findF L 0++[pc0 at' c.size N (N+(runesI c).length)]=_
    rw [HKc.out]
   refine⟨HK5.out.trans (DK.out.trans (KeepsOthers.setCell _ _ _)),⟨hb45.trans EB,fun v hv=>?_⟩,E1,⟨_,E2,?_⟩,?_,E5,?_,H7.out.trans (hb45.trans EB)⟩
   ·rw [HC5.out] at hv
    cases hv
    exact E5.cell
   ·rw [HS.out,hfl]
    unfold OwnS
    rw [List.length_append,findF_len,flatS_snoc]
    exact EO
   ·rw [HS.out,chars_snoc,HN.out,HX1.out]
    show Boxed _ n 3 (.int .i64 ((N+(runesI c).length:Nat):Int))
    rw [HKc.out]
    exact E4
   ·rw [HS.out,chars_snoc,HN.out,HX1.out,List.length_append]
    show N+(runesI c).length≤(pre.length+1)*2097152
    rw [HKc.out,Nat.add_mul]
    omega
  ·have HS:=lh (HSN.out.trans (congrArg (L++·) (if_neg hin)))
   have hfin:KeepsOthers W W∧KpB (n+1) b W W∧FdJ w b n s sv fr tt base wide (pre++[x]) W:=by
    refine⟨KeepsOthers.refl _,⟨Below.refl _ _,fun v hv=>hv⟩,H1.out,⟨lv,H2.out,?_⟩,?_,H5.out,?_,H7.out⟩
    ·rw [HS.out,List.append_nil];exact H3.out
    ·rw [HS.out,List.append_nil];exact H4.out
    ·rw [HS.out,List.append_nil,List.length_append]
     exact Nat.le_trans h6 (Nat.mul_le_mul_right _ (Nat.le_add_right _ _))
   have HF:=lh hfin
   clear HSN HS hfin
   by_cases g1:(at':Int)<(fr:Int)
   ·gi_wp2_with (fail)
    exact HF.out
   ·have g2:(at':Int) ≥ (tt:Int):=by omega
    gi_wp2_with (fail)
    exact HF.out
end
end Go.Proofs.YtlmjbfncopbilaaGreatDoor
