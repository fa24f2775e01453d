/- Part 4 (merged by a program): lemmas of no further condition than each states. -/
import Derived.Test.YtlmjbfncopbilaaGreatDoorK03
namespace Go.Proofs.YtlmjbfncopbilaaGreatDoor
set_option linter.unusedVariables false
set_option linter.unusedSimpArgs false
section
open Go.RowKit Go.Great
def TabPost (T:List (Int × Int)) (r:Int) (w:World) (e:Ending) (w':World):Prop :=
 ∃low,low<T.length∧(low=0∨(T.getD low (0,0)).1≤r)∧(low+1=T.length∨r<(T.getD (low+1) (0,0)).1) ∧
   e=.returned (.tuple #[.int .u8 (T.getD low (0,0)).2,.int .i32 (if low+1<T.length then wrap32 ((T.getD (low+1) (0,0)).1-1) else 1114111)])∧Below w.heap.size w w'
theorem ith_map (T:List (Int × Int)) (f:Int × Int→Int) (i:Nat) (h:i<T.length):ith (T.map f) i=f (T.getD i (0,0)):=by
 simp [ith,h]
theorem tab_tail {fn:Func} (T:List (Int × Int)) (n nT sl al tarr tst:Nat) (r:Int) (w w1:World) (a:Act) (id:Nat) (o1 o2 o3 o4 o5 o6 o7:Oper)
 (hn:T.length=n) (hn1:1≤n) (hn2:n≤100000) (hs:a.tmps.size=nT) (hd:a.defers=[]) (hp:a.eval (.tmp al)=.pointer (some ⟨w.heap.size,0,none⟩)) (hr:a.eval (.tmp 0)=.int .i32 r)
 (hsl:3<sl) (hnT:sl+5≤nT) (hu:Tryz.prog.underlying tarr=some (.array n tst)) (hi:(Tryz.prog.info? tst).isSome=true)
 (hh:w1.heap[w.heap.size]? = some (.cells (tcells T).toArray tarr (0,0))) (hb:Below w.heap.size w w1) (hres:fn.results=#[.tmp 2,.tmp 3])
 (g1:o1.guard=none) (d1:o1.dst=some sl) (p1:o1.op=.slice tarr (.tmp al) none none none)
 (g2:o2.guard=none) (d2:o2.dst=some (sl+1)) (p2:o2.op=.move (.tmp 0))
 (g3:o3.guard=none) (d3:o3.dst=some (sl+2)) (p3:∀b:Act,execOp b.eval o3=callFunc 180 #[b.eval (.tmp sl),b.eval (.tmp (sl+1))])
 (g4:o4.guard=none) (d4:o4.dst=some (sl+3)) (p4:o4.op=.extract (.tmp (sl+2)) 0)
 (g5:o5.guard=none) (d5:o5.dst=some (sl+4)) (p5:o5.op=.extract (.tmp (sl+2)) 1)
 (g6:o6.guard=none) (d6:o6.dst=some 2) (p6:o6.op=.assign (.tmp (sl+3)))
 (g7:o7.guard=none) (d7:o7.dst=some 3) (p7:o7.op=.assign (.tmp (sl+4))) :
 Code.wp Tryz.prog (.seq (.region id #[o1,o2,o3,o4,o5,o6,o7] false) .ret) (bodyPost Tryz.prog fn (TabPost T (known r) w)) a w1:=by
 apply wp_seq_k;intro K hK
 apply wp_region_lit
 refine wpList_sliceArr g1 _ d1 tarr tst n (.tmp al) p1 w.heap.size hu hi hp ?_
 refine wpList_mv g2 _ d2 _ (.inl p2) ?_
 rw [Act.eval_put_ne _ _ _ _ (by omega),hr]
 have s1:∀(x:Option Tmp) (v:Value) (b:Act),b.tmps.size=nT→(b.put x v).tmps.size=nT:=fun x v b hb=>by rw [Act.size_put,hb]
 have hz1:=s1 (some sl) (.slice (some ⟨w.heap.size,0,none⟩) n n) a hs
 have hz2:=s1 (some (sl+1)) (.int .i32 r) _ hz1
 have ex:=p3 ((a.put (some sl) (.slice (some ⟨w.heap.size,0,none⟩) n n)).put (some (sl+1)) (.int .i32 r))
 refine wpList_call2 g3 _ d3 180 (.tmp sl) (.tmp (sl+1)) ex (fun args w=>Tryz.call180 args w) (R:=FindPost n (T.map (·.1)) (T.map (·.2)) (known r) w1) ?_ ?_
 ·rw [Act.eval_put_same _ _ _ (by omega),Act.eval_put_ne _ _ _ _ (by omega),Act.eval_put_same _ _ _ (by omega)]
  refine find_any w.heap.size n n (T.map (·.1)) (T.map (·.2)) r w1 hn1 hn2 (fun i hi=>?_) (fun i hi=>?_)
  ·rw [ith_map _ _ _ (by omega),World.cell?,hh];simp;exact (tcells_get T i (by omega)).1
  ·rw [ith_map _ _ _ (by omega),World.cell?,hh];simp;exact (tcells_get T i (by omega)).2
 ·rintro e w2 ⟨low,q1,q2,q3,rfl,q,rfl⟩
  refine⟨_,rfl,?_⟩
  generalize hv1:(Value.int .u8 (ith (T.map (·.2)) low))=v1
  generalize hv2:(Value.int .i32 (if low+1<n then wrap32 (ith (T.map (·.1)) (low+1)-1) else 1114111))=v2
  have hz3:=s1 (some (sl+2)) (.tuple #[v1,v2]) _ hz2
  refine wpList_ext g4 _ d4 _ 0 p4 #[v1,v2] v1 (Act.eval_put_same _ _ _ (by omega)) rfl ?_
  have hz4:=s1 (some (sl+3)) v1 _ hz3
  refine wpList_ext g5 _ d5 _ 1 p5 #[v1,v2] v2 (by rw [Act.eval_put_ne _ _ _ _ (by omega)];exact Act.eval_put_same _ _ _ (by omega)) rfl ?_
  have hz5:=s1 (some (sl+4)) v2 _ hz4
  refine wpList_mv g6 _ d6 _ (.inr p6) ?_
  refine wpList_mv g7 _ d7 _ (.inr p7) ?_
  apply wpList_nil
  refine hK _ _ ?_
  apply wp_ret
  refine bodyPost_ret (results_tmp2 hres _ _ _) (by simp only [Act.defers_put',hd]) ?_
  have e2:∀(b:Act) (j:Nat),b.tmps.getD j undef=b.eval (.tmp j):=fun b j=>rfl
  rw [e2,e2,Act.eval_put_same _ 3 _ (by rw [Act.size_put,hz5];omega),Act.eval_put_ne _ 3 2 _ (by omega),Act.eval_put_same _ 2 _ (by rw [hz5];omega),Act.eval_put_ne _ 2 _ _ (by omega),
   Act.eval_put_same _ (sl+4) _ (by rw [hz4];omega),Act.eval_put_ne _ (sl+4) (sl+3) _ (by omega),Act.eval_put_same _ (sl+3) _ (by rw [hz3];omega)]
  subst hv1 hv2 hn
  refine⟨low,q1,?_,?_,?_,bl_drewN hb _⟩
  ·rcases q2 with h | h
   ·exact .inl h
   ·exact .inr (by rwa [ith_map _ _ _ q1] at h)
  ·rcases q3 with h | h
   ·exact .inl h
   ·by_cases hl:low+1<T.length
    ·exact .inr (by rwa [ith_map _ _ _ hl] at h)
    ·exact .inl (by omega)
  ·rw [ith_map _ _ _ q1]
   by_cases hl:low+1<T.length
   ·rw [if_pos hl,if_pos hl,ith_map _ _ _ hl]
   ·rw [if_neg hl,if_neg hl]
theorem tab_below (w:World) (o:Obj) (c:Array Value):Below w.heap.size w ((w.alloc o).setRow w.heap.size c):=by
 refine⟨rfl,rfl,rfl,by simp [World.setRow],fun k hk=>?_⟩
 simp only [World.setRow,Array.getElem?_modify]
 rw [if_neg (by omega)]
 exact Below.heap_alloc w o k hk
theorem dirsT_len:dirsT.length=173:=by as_aux_lemma=>kernel_rfl
set_option maxRecDepth 1000000 in
set_option maxHeartbeats 1000000 in
theorem dirs_any (r:Int) (w:World) :
 Calls Tryz.prog 152 #[.int .i32 r] w (TabPost dirsT (known r) w):=by
 refine calls_of_wp Tryz.func152 rfl ?_
 refine wp_frame0 184 (.int .i32 r) (by as_aux_lemma=>kernel_rfl) rfl (by as_aux_lemma=>kernel_rfl) fun a0 hs0 hd0 h0=>?_
 apply wp_seq_k;intro K0 hK0
 apply wp_region_lit
 refine wpList_mv rfl (some 2) rfl _ (.inr rfl) ?_
 refine wpList_mv rfl (some 3) rfl _ (.inr rfl) ?_
 apply wpList_nil
 refine hK0 _ _ ?_
 refine wp_frame0 184 (.int .i32 r) (by simp only [Act.size_put,hs0]) (by simp only [Act.defers_put',hd0]) (by rw [Act.eval_put_ne _ _ _ _ (by decide),Act.eval_put_ne _ _ _ _ (by decide),h0]) fun a1 hs1 hd1 h1=>?_
 clear hK0 K0 h0 hd0 hs0 a0
 apply wp_seq_k;intro K1 hK1
 apply wp_region_lit
 refine wpList_splitAt 173 (stOps 248 (posOf Tryz.f152) 5 dirsT) (by as_aux_lemma=>kernel_rfl) ?_
 refine wpList_sts 248 (posOf Tryz.f152) (fun _ _=>by as_aux_lemma=>kernel_rfl) dirsT 5 _ (by rw [dirsT_len,hs1];decide) fun a2 hs2 hd2 hev hlow=>?_
 refine wpList_buildArr2 rfl 253 248 173 _ dirsT rfl 5 (some 178) rfl (by as_aux_lemma=>kernel_rfl) (by as_aux_lemma=>kernel_rfl) (by as_aux_lemma=>kernel_rfl) (by as_aux_lemma=>kernel_rfl) hev ?_
 refine wpList_allocZ rfl (some 4) rfl 253 rfl w.heap.size rfl (((Tryz.prog.info? 253).bind (·.zero)).getD undef) (by as_aux_lemma=>kernel_rfl) ?_
 have hc2:(tcells dirsT).toArray.size=346:=by rw [List.size_toArray,tcells_length,dirsT_len]
 have hb:w.heap.size<(w.alloc (.cells (((Tryz.prog.info? 253).bind (·.zero)).getD undef).cells 253)).heap.size:=by simp
 refine wpList_store_row rfl 253 (.tmp 4) (.tmp 178) rfl w.heap.size (tcells dirsT).toArray
  (Act.eval_put_same _ _ _ (by simp only [Act.size_put,hs2,hs1];decide)) (by rw [Act.eval_put_ne _ _ _ _ (by decide),Act.eval_put_same _ _ _ (by simp only [hs2,hs1];decide)])
  253 _ (heap_alloc_new w _) (by rw [hc2];as_aux_lemma=>kernel_rfl) (by rw [hc2];as_aux_lemma=>kernel_rfl) (tcells_one _) ?_
 apply wpList_nil
 refine hK1 _ _ ?_
 clear hK1 K1
 have hp:((((a2.put (some 178) (.agg (tcells dirsT).toArray)).put (some 4) (.pointer (some ⟨w.heap.size,0,none⟩)))).put none undef).eval (.tmp 4)=.pointer (some ⟨w.heap.size,0,none⟩) :=
  Act.eval_put_same _ _ _ (by simp only [Act.size_put,hs2,hs1];decide)
 have hr:((((a2.put (some 178) (.agg (tcells dirsT).toArray)).put (some 4) (.pointer (some ⟨w.heap.size,0,none⟩)))).put none undef).eval (.tmp 0)=.int .i32 r:=by
  show ((a2.put (some 178) (.agg (tcells dirsT).toArray)).put (some 4) (.pointer (some ⟨w.heap.size,0,none⟩))).eval (.tmp 0)=_
  rw [Act.eval_put_ne _ _ _ _ (by decide),Act.eval_put_ne _ _ _ _ (by decide),hlow 0 (by decide),h1]
 exact tab_tail dirsT 173 184 179 4 253 248 r w _ _ _ _ _ _ _ _ _ _ dirsT_len (by decide) (by decide) (by simp only [Act.size_put,hs2,hs1]) (by simp only [Act.defers_put',hd2,hd1]) hp hr (by decide) (by decide)
  (by as_aux_lemma=>kernel_rfl) (by as_aux_lemma=>kernel_rfl) (setRow_heap _ _ _ _ _ _ (heap_alloc_new w _)) (tab_below w _ _) rfl
  rfl rfl rfl rfl rfl rfl rfl rfl (fun x=>by rw [execOp_call_go];simp) rfl rfl rfl rfl rfl rfl rfl rfl rfl rfl rfl rfl
def DirsVal (r:Int) (w:World) (e:Ending) (w':World):Prop :=
 ∃x y:Int,x=dirI r∧0≤x∧x≤127∧e=.returned (.tuple #[.int .u8 x,.int .i32 y])∧Below w.heap.size w w'
theorem dirs_val (r:Int) (w:World):Calls Tryz.prog 152 #[.int .i32 r] w (DirsVal r w):=by
 refine (dirs_any r w).mono fun e w1 h=>?_
 obtain⟨low,h1,h2,h3,he,hb⟩:=h
 have hs:tabSmall dirsT=true:=by as_aux_lemma=>kernel_rfl
 have hr:risesB dirsT=true:=by as_aux_lemma=>kernel_rfl
 have hbd:=tabSmall_bd hs low
 exact⟨_,_,(tabLook_of dirsT low (known r) hr h1 h2 h3).symm,hbd.1,hbd.2,he,hb⟩
set_option maxHeartbeats 400000 in
theorem Dir_any (r:Int) (w:World) :
 Calls Tryz.prog 116 #[.int .i32 r] w fun e w'=>e=.returned (.int .i8 (dirI r))∧Below w.heap.size w w':=by
 go_enter Tryz.func116,Tryz.ntmps116
 go_wp2_with (go_at_call 152;refine (dirs_val r w).mono ?_;rintro e w1 ⟨x,y,rfl,h0,h1,rfl,hb⟩)
 go_ret
 exact⟨ret_i rfl,hb⟩
end
section
open Go.RowKit
set_option maxHeartbeats 400000 in
theorem way_any (k:Int) (w:World) :
 Calls Tryz.prog 196 #[.int .i8 k] w fun e w'=>e=.returned (.int .i8 (wayI k))∧w=w':=by
 go_enter Tryz.func196,Tryz.ntmps196
 go_wp2
 all_goals (go_ret;simp_all [wayI])
set_option maxHeartbeats 400000 in
theorem side_any (k:Int) (w:World) :
 Calls Tryz.prog 194 #[.int .i8 k] w fun e w'=>e=.returned (.int .i8 (sideI k))∧w=w':=by
 go_enter Tryz.func194,Tryz.ntmps194
 go_wp2
 all_goals (go_ret;simp_all [sideI])
theorem run_index_int {P:Program} (w:World) {t e n:Nat} {k:IntKind} (cs:Array Value) (i:Nat) (v:Value) (hu:P.underlying t=some (.array n e)) (he:P.underlying e=some (.int k)) (hs:(P.info? e).map (·.size)=some 1)
 (hi:i<n) (hv:cs[i]? = some v):(Instr.index t (.agg cs) (.int .i64 i)).run P w=.ok v w:=by
 cases hq:P.info? e with
 | none=>simp [hq] at hs
 | some ie =>
   have h1:ie.size=1:=by simpa [hq] using hs
   simp [Instr.index,asIntOf,run_underlying hu,sizeOf,typeInfo,hq,hi,h1,part,isAgg,run_underlying he,hv]
theorem beq_even (k:Nat):((k:Int) % 2==0)=decide (k % 2=0):=by
 rw [Bool.eq_iff_iff,beq_iff_eq,decide_eq_true_iff];omega
def PairPost (r:Int) (w:World) (e:Ending) (w':World):Prop :=
 e=.returned (.tuple #[.int .i32 (pairI r).1,.bool (pairI r).2.1,.bool (pairI r).2.2])∧w=w'
set_option maxHeartbeats 1000000 in
theorem Pair_any (r:Int) (w:World):Calls Tryz.prog 170 #[.int .i32 r] w (PairPost r w):=by
 go_enter Tryz.func170,Tryz.ntmps170
 go_wp2
 go_loop [9] (fun i=>∃k:Nat,k≤30∧i=.int .i64 k∧∀j,j<k→ith brL j≠r) (fun i=>30-(intOf i).toNat)
 case atStart=>exact⟨0,by omega,rfl,fun j hj=>absurd hj (by omega)⟩
 case round =>
  obtain⟨k,hk,rfl,hmiss⟩:=hrel
  have HM:=lh hmiss
  clear hmiss
  by_cases hlt:k<30
  ·have hix:∀w:World,(Instr.index 277 (.agg (brL.map (Value.int .i32)).toArray) (.int .i64 k)).run Tryz.prog w=.ok (.int .i32 (ith brL k)) w:=fun w =>
    run_index_int w _ k _ Tryz.underlying277 Tryz.underlying21 (by kernel_rfl) hlt (by
     simp only [List.getElem?_toArray,List.getElem?_map]
     rw [show brL[k]? = some (ith brL k) from by rw [ith,List.getD_eq_getElem?_getD,List.getElem?_eq_getElem (by simpa [brL] using hlt)];rfl];rfl)
   obtain⟨p1,p2,p3,p4⟩:=pair_hit k hlt
   generalize hx:ith brL k=x at hix p1 p2 p3 p4
   simp only [brL,List.map_cons,List.map_nil] at hix
   have HX:=lh hx
   clear hx
   by_cases hr:x=r
   ·subst hr
    have P4:=lh p4
    clear p4
    have fin:∀(f:Int) (b:Bool),f=farI k→b=decide (k % 2=0)→PairPost x w (.returned (.tuple #[.int .i32 (x+f),.bool b,.bool true])) w:=by
     intro f b h1 h2
     have:=P4.out
     exact⟨ret_ibb (by rw [this,h1]) (by rw [this,h2]) (by rw [this]),rfl⟩
    have FIN:=lh fin
    clear fin
    by_cases a6:(k:Int)<6
    ·by_cases a1:(1:Int)<k
     ·clear p3
      by_cases e2:(k:Int) % 2=0
      ·go_wp2
       go_ret3
       exact FIN.out 2 _ (by unfold farI;rw [if_pos (by omega),if_pos (by omega)]) (decide_eq_true (by omega)).symm
      ·go_wp2
       go_ret3
       exact FIN.out (-2) _ (by unfold farI;rw [if_neg (by omega),if_pos (by omega)]) (beq_even k)
     ·have hx3:x<65339:=by omega
      clear p3
      by_cases e2:(k:Int) % 2=0
      ·go_wp2
       go_ret3
       exact FIN.out 1 _ (by unfold farI;rw [if_pos (by omega),if_neg (by omega)]) (decide_eq_true (by omega)).symm
      ·go_wp2
       go_ret3
       exact FIN.out (-1) _ (by unfold farI;rw [if_neg (by omega),if_neg (by omega)]) (beq_even k)
    ·by_cases a3:25<k
     ·have hx3:65339≤x:=by omega
      clear p3
      by_cases e2:(k:Int) % 2=0
      ·go_wp2
       go_ret3
       exact FIN.out 2 _ (by unfold farI;rw [if_pos (by omega),if_pos (by omega)]) (decide_eq_true (by omega)).symm
      ·go_wp2
       go_ret3
       exact FIN.out (-2) _ (by unfold farI;rw [if_neg (by omega),if_pos (by omega)]) (beq_even k)
     ·have hx3:x<65339:=by omega
      clear p3
      by_cases e2:(k:Int) % 2=0
      ·go_wp2
       go_ret3
       exact FIN.out 1 _ (by unfold farI;rw [if_pos (by omega),if_neg (by omega)]) (decide_eq_true (by omega)).symm
      ·go_wp2
       go_ret3
       exact FIN.out (-1) _ (by unfold farI;rw [if_neg (by omega),if_neg (by omega)]) (beq_even k)
   ·go_wp2
    go_round
    case rel=>exact⟨k+1,by omega,by go_num,fun j hj e=>by
     by_cases h:j=k
     ·subst h;exact hr (HX.out.symm.trans e)
     ·exact HM.out j (by omega) e⟩
    case measure=>simp [intOf];omega
  ·go_wp2
   go_ret3
   have hm:=pairI_miss r (fun j hj=>HM.out j (by omega))
   exact⟨ret_ibb (by rw [hm]) (by rw [hm]) (by rw [hm]),rfl⟩
end
section
open Go.RowKit
set_option maxHeartbeats 1000000 in
theorem decide_any (G n cap p0 p1:Nat) (xs:List Int) (e ahead:Int) (w:World) (hG:G<w.heap.size) (h01:p0<p1) (h1n:p1<n) (hn:n≤cap) (hc:cap≤maxLen)
 (hx:∀i,i<n→w.cell? ⟨G,i,none⟩=some (.int .i8 (ith xs i))) :
 Calls Tryz.prog 197 #[.slice (some ⟨G,0,none⟩) n cap,.agg #[.int .i64 p0,.int .i64 p1],.int .i8 e,.int .i8 ahead] w
  fun r w'=>r=.returned (.int .i8 (decI xs p0 p1 e ahead))∧Below w.heap.size w w':=by
 unfold maxLen at hc
 go_enter Tryz.func197,Tryz.ntmps197
 go_wp2_with (fail)
 go_loop [9,20] (fun a c=>∃(i j:Nat) (acc:Int),i+j+(p0+1)=p1∧c=.int .i64 i∧a=.int .i8 acc∧decF xs e ahead j (p0+1+i) acc=decI xs p0 p1 e ahead) (fun _ c=>p1-(p0+1)-(intOf c).toNat)
 case atStart=>exact⟨0,p1-(p0+1),-1,by omega,rfl,rfl,rfl⟩
 case round =>
  obtain⟨i,j,acc,hij,rfl,rfl,hF⟩:=hrel
  have HF:=lh hF
  clear hF
  have HIJ:=lh hij
  by_cases hlt:i+(p0+1)<p1
  ·obtain⟨j,rfl⟩:∃j',j=j'+1:=⟨j-1,by omega⟩
   clear hij
   have hcell:=hx (p0+1+i) (by omega)
   generalize hy:ith xs (p0+1+i)=y at hcell
   have HY:=lh hy
   clear hy
   have hF:decF xs e ahead (j+1) (p0+1+i) acc=if wayI y=e then e else if wayI y = -1 then decF xs e ahead j (p0+1+(i+1)) acc else decF xs e ahead j (p0+1+(i+1)) ahead:=by
    rw [decF,HY.out];rfl
   by_cases c1:wayI y=e
   ·rw [if_pos c1] at hF
    have HF2:=lh hF
    clear hF
    have c1':(wayI y==e)=true:=by rw [c1];simp
    have C1:=lh c1
    clear c1
    go_wp2_with (go_at_call 196;refine (way_any _ _).mono ?_;rintro e w' ⟨rfl,rfl⟩)
    go_ret
    exact⟨ret_i (by rw [←HF.out,HF2.out]),(Below.refl _ _).alloc (Nat.le_refl _) _⟩
   ·rw [if_neg c1] at hF
    have c1':(wayI y==e)=false:=by simpa using c1
    by_cases c2:wayI y = -1
    ·rw [if_pos c2] at hF
     have HF2:=lh hF
     clear hF
     have c2':(wayI y == -1)=true:=by rw [c2];simp
     have C1:=lh c1
     clear c1
     have C2:=lh c2
     clear c2
     go_wp2_with (go_at_call 196;refine (way_any _ _).mono ?_;rintro e w' ⟨rfl,rfl⟩)
     go_round
     case rel=>exact⟨i+1,j,acc,by have:=HIJ.out;omega,by go_num,rfl,by rw [←HF.out,HF2.out]⟩
     case measure=>simp [intOf];omega
    ·rw [if_neg c2] at hF
     have HF2:=lh hF
     clear hF
     have c2':(wayI y == -1)=false:=by simpa using c2
     have C1:=lh c1
     clear c1
     have C2:=lh c2
     clear c2
     go_wp2_with (go_at_call 196;refine (way_any _ _).mono ?_;rintro e w' ⟨rfl,rfl⟩)
     go_round
     case rel=>exact⟨i+1,j,ahead,by have:=HIJ.out;omega,by go_num,rfl,by rw [←HF.out,HF2.out]⟩
     case measure=>simp [intOf];omega
  ·obtain rfl:j=0:=by omega
   go_wp2
   go_ret
   exact⟨ret_i (by rw [←HF.out];rfl),(Below.refl _ _).alloc (Nat.le_refl _) _⟩
end
end Go.Proofs.YtlmjbfncopbilaaGreatDoor
