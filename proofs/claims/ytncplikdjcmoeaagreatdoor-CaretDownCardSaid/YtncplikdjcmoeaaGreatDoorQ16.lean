/- Lemmas, part 16: no further condition than each states. -/
import Derived.Test.YtncplikdjcmoeaaGreatDoorQ15
namespace Go.Proofs.YtncplikdjcmoeaaGreatDoor
set_option linter.unusedVariables false
set_option linter.unusedSimpArgs false
set_option maxRecDepth 100000
set_option maxHeartbeats 4000000
section
open Go.RowKit Go.Proofs Go.Shelf
attribute [local go_sem] qV
theorem numS_at:∀(L:List St) (i:Nat) (pre:List (Nat × St)) (x:Nat × St),pre++[x] <+: yHf i L→x.1=i+pre.length
 | [],i,pre,x,h=>by
   have:=h.length_le;rw [yHf,zJ] at this;simp at this
 | s::t,i,[],x,h=>by
   rw [yHf,zp] at h;obtain⟨a,_⟩:=List.cons_prefix_cons.1 h;rw [a];rfl
 | s::t,i,p::pre,x,h=>by
   rw [yHf,zo] at h;obtain⟨_,b⟩:=List.cons_prefix_cons.1 h;have:=numS_at t (i+1) pre x b;rw [zb];omega
def FnJ (w:World) (B A F:Nat) (c cw:Int) (back:Bool) (a:Nat) (pre:List (Nat × St)) (W:World):Prop :=
 ∃f:Int,Boxed W F 3 (.int .i64 f)∧(∀R,yCs a back (pre.map (·.2)++R) 0 (-1)=yCs a back R pre.length f)∧Boxed W A 3 (.int .i64 a)∧W.heap[B]? = some (.cells #[c,back,cw] 33 (0,0))∧Below B w W
theorem yI7 {T:ByteArray} {x:OneR} (h:yBl T x) (d:T.size≤65536):IntKind.i64.wrap ((x.at':Int)+x.r.a)=yW x∧IntKind.i64.wrap (yW x+x.r.len)=yE0 x∧0≤yW x∧yW x≤65536∧0≤yE0 x∧yE0 x≤65536:=by
 obtain⟨e,f,g⟩:=yA6 h;obtain⟨_,i,j,_,_,k,l,b,c,_⟩:=h;have b:=b.1;have c:=c.1;refine⟨?_,?_,?_,?_,?_,?_⟩
 ·rw [ZH];unfold yW;omega
 ·rw [ZH];unfold yW yE0;omega
 ·unfold yW;omega
 ·unfold yW;omega
 ·unfold yE0;omega
 ·unfold yE0;omega
theorem yFc (T:ByteArray) (hs:T.size≤65536) (O P:Int) (U a0 a1:Bool) (L:List OneR) (k0:L.length≤1048576) (hR:∀x∈L,yBl T x) (c cw:Int) (d:Bool) (base Pb:Nat) (w:World) (hP:yE9 w base Pb T O P U a0 a1 L) (hT:T8 w) (hD:DB w) :
 Calls Tryz.prog 71 #[.pointer (some ⟨Pb,0,none⟩),.agg #[c,d,cw]] w fun e w' =>
  e=.returned (if yBv (ctI T c) L 0 (-1)<0 then .tuple #[.int .i64 0,.int .i64 0,false] else .tuple #[.int .i64 (yEo T O P U a0 a1 L c d).1,.int .i64 (yEo T O P U a0 a1 L c d).2,true])∧Below w w w':=by
 have i3:=lh (fun (W:World) (h:Below w w W)=>yEc T (by omega) c cw d W (hT.below rfl h));have d6:=lh (fun (W:World) (h:Below w w W)=>(⟨hP.below h,hT.below rfl h,hD.below h⟩:yE9 W base Pb T O P U a0 a1 L∧T8 W∧DB W));have d7:=lh hR;obtain⟨kb,k2⟩:=yOc T c;have n7:=k2.1;unfold yEo;obtain⟨a,ha⟩:=nm (ctI T c);rw [ha] at n7 i3 ⊢;obtain⟨V,hV⟩:∃V:Value,(if yBv a L 0 (-1)<0 then Value.tuple #[.int .i64 0,.int .i64 0,false] else .tuple #[.int .i64 (yBm L a d),.int .i64 (yCs a d (stK O P U a0 a1 (L.getD (yBm L a d).toNat default)) 0 (-1)),true])=V:=⟨_,rfl⟩;rw [hV];have HV:=lh hV;clear hV;have q6:∀(a':Nat) (w:World),Sem.run Tryz.prog (Instr.field 33 (.agg #[a',false,.int .i64 (-1)]) 0) w=.ok (.int .i64 a') w:=fun a' w=>by kernel_rfl
 have n8:=hP.lt;clear hT hD ha k2 hP hR;refine (qG (n:=4)).1 ?_;refine qI Tryz.func71 rfl trivial ?_ rfl;simp only [Tryz.ntmps71,qW,zb,zn,Nat.reduceAdd,Nat.reduceSub,qX,qY,qZ,qd,zp,zo];gi_upto_region 1 with fail;have c6:=qal w (.cells #[c,d,cw] 33);have b2:=zL w (.cells #[c,d,cw] 33);have b3:=zM w (.cells #[c,d,cw] 33);generalize w.alloc _=W1 at c6 b2 b3 ⊢;obtain⟨B,hB⟩:=nm (w.heap.size);rw [hB] at b2 b3 n8
 try rw [hB]
 have b9:=lh c6;have n9:=lh b2;clear c6;refine wpIn_wide.2 ?_;go_cut [7] from 15 to 21 (fun v7 wx=>∃A,v7=.pointer (some ⟨A,0,none⟩)∧B<A∧A<wx.heap.size∧Boxed wx A 3 (.int .i64 a)∧Below W1 W1 wx)
 case first=>as_aux_lemma =>
  obtain⟨pa,cap,⟨p0,_⟩,_⟩:=(d6.out W1 b9.out).1.cells;obtain⟨S,d8,i4⟩:∃S:World→Prop,(∀W,S W→Below W1 W1 W)∧(∀W,Below W1 W1 W→S W):=⟨fun W=>Below W1 W1 W,fun _ h=>h,fun _ h=>h⟩;have y0:∀p:WIn S,p.w.cell? ⟨B,0,none⟩=some (.int .i64 c):=fun p=>yB (d8 _ p.h) (by omega) (ce b2);have y1:∀p:WIn S,p.w.cell? ⟨B,1,none⟩=some (.bool d):=fun p=>yB (d8 _ p.h) (by omega) (ce b2);have y2:∀p:WIn S,p.w.cell? ⟨B,2,none⟩=some (.int .i64 cw):=fun p=>yB (d8 _ p.h) (by omega) (ce b2);have y3:∀p:WIn S,p.w.cell? ⟨Pb,0,none⟩=some (.string T):=fun p=>yB (d8 _ p.h) (by omega) p0;have I:=lh i4;have c7:Nonempty (WIn S):=⟨⟨W1,i4 _ (Zc _ _)⟩⟩;have f8:=lh b3;clear d8 i4 b2 p0 b3;refine yn S (by kernel_rfl) ?_;have b4:Below W1 W1 W1.drew:=(Zc _ _).drew;have i5:W1.drew.heap.size=B+1:=f8.out;generalize W1.drew=X0 at b4 i5 ⊢;have o0:=lh i5;clear i5;refine yHi [0,1,2,3,4] [5,7] (fuel:=3) yC (by kernel_rfl) (I.out _ b4) ?_;simp only [yS,zD,zE,zC,zB,zA];show wpQuiet _ _ _ _ [_,_,_,_,_] _
  repeat (go_big_quiet_step (fail))
  refine Zt ?_;intro k hk;rcases zX.1 hk with rfl | hk
  ·intro K hK;have u:=lh hK;clear hK;have HC:=lh (i3.out X0 (b9.out.trans (b4.mono b9.out.size)));simp only [zD,zE,zC,zB,zA];show wpList _ _ _ [_] _ _;go_wp2_with (go_at_call 72;refine HC.out.mono ?_;rintro e w3 ⟨rfl,c8⟩);have a2:=b4.trans (c8.mono b4.size);refine u.out _ _ (I.out _ a2) ?_;clear u HC;refine yAq [6] 7 [_] (fuel:=1) yC (by kernel_rfl) (I.out _ a2) ?_
   repeat (go_big_quiet_step (fail))
   refine Zt ?_;intro K u;go_wp2;have c1:=qal w3 (.cells #[.int .i64 0] 3);have a3:=Boxed.new w3 3 (.int .i64 0);have N:=a2.trans (c1.mono a2.size);refine u.out _ _ (I.out _ N) ?_;clear u;obtain⟨A,hA⟩:=nm (w3.heap.size);have i6:=a2.size;generalize w3.alloc _=w4 at c1 a3 N ⊢;rw [hA] at a3 i6 ⊢;have d0:=a3.cell;have df:=a3.frozen;refine yj 8 (fuel:=0) yC (by kernel_rfl) (I.out _ N) fun K u=>?_;go_wp2;have a4:=N.setCell (p:=⟨A,0,none⟩) (by show W1.heap.size≤A;omega) (.int .i64 a);have c2:Boxed (w4.setCell ⟨A,0,none⟩ (.int .i64 a)) A 3 (.int .i64 a):=yM (i:=0) a3 _;refine u.out _ _ (I.out _ a4) ?_;clear u;have b3:=f8.out;have d9:=lh a4;have c3:=lh c2;generalize w4.setCell _ _=w5 at a4 c2 d9 c3 ⊢;refine yAi [] yC (by kernel_rfl) (I.out _ a4) ?_;simp only [yS,zE];refine Zt ?_;simp only [NoPanic];clear a4 c2 N a3 c1 a2 c8 d0 df c7 I y0 y1 y2 y3 b3;go_wp2;go_meet
   case rel =>
    have b3:=f8.out;exact⟨A,rfl,by omega,c3.out.lt,c3.out,d9.out⟩
  ·obtain rfl:=zO.1 hk;intro K hK;have u:=lh hK;clear hK;simp only [zD,zE,zC,zB,zA];show wpList _ _ _ [_] _ _;go_wp2;have c1:=qal X0 (.cells #[.int .i64 0] 3);have a3:=Boxed.new X0 3 (.int .i64 0);have f9:=zM X0 (.cells #[.int .i64 0] 3);have N:=b4.trans (c1.mono b4.size);refine u.out _ _ (I.out _ N) ?_;clear u;obtain⟨A,hA⟩:=nm (X0.heap.size);have i6:=b4.size;generalize X0.alloc _=w4 at c1 a3 N f9 ⊢;rw [hA] at a3 i6 f9 ⊢;have HC:=lh (i3.out w4 (b9.out.trans (N.mono b9.out.size)));have o1:=lh f9;clear f9;refine yj 5 (fuel:=2) yC (by kernel_rfl) (I.out _ N) fun K u=>?_;go_wp2_with (go_at_call 72;refine HC.out.mono ?_;rintro e w3 ⟨rfl,c8⟩);have a2:=N.trans (c8.mono N.size);have g0:Boxed w3 A 3 (.int .i64 0):=(c8.block A (by have:=o1.out;omega)).trans a3;refine u.out _ _ (I.out _ a2) ?_;clear u HC;have d0:=g0.cell;have df:=g0.frozen;refine yAq [6] 8 [_] (fuel:=0) yC (by kernel_rfl) (I.out _ a2) ?_
   repeat (go_big_quiet_step (fail))
   refine Zt ?_;intro K u;go_wp2;have a4:=a2.setCell (p:=⟨A,0,none⟩) (by show W1.heap.size≤A;omega) (.int .i64 a);have c2:Boxed (w3.setCell ⟨A,0,none⟩ (.int .i64 a)) A 3 (.int .i64 a):=yM (i:=0) g0 _;refine u.out _ _ (I.out _ a4) ?_;clear u;have d9:=lh a4;have c3:=lh c2;generalize w3.setCell _ _=w5 at a4 c2 d9 c3 ⊢;refine yAi [] yC (by kernel_rfl) (I.out _ a4) ?_;simp only [yS,zE];refine Zt ?_;simp only [NoPanic];clear a4 c2 N a3 c1 a2 g0 c8 d0 df c7 I y0 y1 y2 y3;go_wp2;go_meet
   case rel =>
    have b3:=f8.out;have q7:=o0.out;exact⟨A,rfl,by omega,c3.out.lt,c3.out,d9.out⟩
 case rest =>
  obtain⟨W2,o2⟩:∃W,W=wc:=⟨_,rfl⟩;subst o2;obtain⟨A,rfl,q8,e0,hA,g1⟩:=hcut;have e7:=lh (b9.out.trans (g1.mono b9.out.size));have k3:=lh ((g1.block B (by omega)).trans n9.out);have g4:=lh hA;have q9:=g1.size;obtain⟨pa,cap,⟨_,_,_,_,_,_,p6⟩,k4⟩:=(d6.out W2 e7.out).1.cells;have i7:=lh (fun (W:World) (h:Below W2 W2 W) (k:Nat) (x:OneR) (hx:L[k]? = some x)=>(by
   obtain⟨G,eG,x0,x1,x2,x3,x4,x5,x6⟩:=k4 k x hx;exact⟨G,eG,yB h (yD x0) x0,yB h (yD x1) x1,yB h (yD x2) x2,yB h (yD x3) x3,yB h (yD x4) x4,yB h (yD x5) x5,yB h (yD x6) x6⟩ :
   ∃G,pa=some ⟨G,0,none⟩∧W.cell? ⟨G,k*7,none⟩=some (.int .i64 x.r.a)∧W.cell? ⟨G,k*7+1,none⟩=some (.int .i64 x.r.len)∧W.cell? ⟨G,k*7+2,none⟩=some (.int .u8 x.r.level)∧W.cell? ⟨G,k*7+3,none⟩=some (.int .i64 x.r.wide) ∧
     W.cell? ⟨G,k*7+4,none⟩=some (.int .i8 x.r.fin)∧W.cell? ⟨G,k*7+5,none⟩=some (.int .i64 x.at')∧W.cell? ⟨G,k*7+6,none⟩=some (.string x.line)))
  have P6:=lh p6;obtain⟨n,hn⟩:=nm (L.length);rw [hn] at p6 k0;have HN:=lh hn;clear k4 g1 hA hn b2;gi_wp2;clear p6;gi_loopw [8,9,10,27] (fun u8 _ _ u27 wr=>∃(i:Nat) (k:Int),i≤n∧u27=.int .i64 i∧u8=.int .i64 k ∧ -1≤k∧k<(i:Int)∧yBv a L 0 (-1)=yBv a (L.drop i) i k∧Below W2 W2 wr) (fun _ _ _ u27 _=>n-(intOf u27).toNat)
  case atStart=>exact⟨0,-1,zd _,rfl,rfl,by omega,by omega,by rw [ZZ],Zc _ _⟩
  case round =>
   obtain⟨i,k,r0,rfl,rfl,k5,r6,J,c4⟩:=hrel;by_cases r7:i<n
   ·obtain⟨x,hx⟩:∃x,L[i]? = some x:=⟨_,zF (by have:=HN.out;omega)⟩;obtain⟨G,eG,x0,x1,x2,x3,x4,x5,x6⟩:=i7.out wr c4 i x hx;subst eG;have k6:=d7.out x (zS hx);obtain⟨_,z2,_⟩:=yA6 k6;obtain⟨_,ra,rl,_,_,er,el,k7,_⟩:=k6;have o3:=k7.1;have r8:=(yA6 (d7.out x (zS hx))).1;rw [yAu hx,yBv] at J;have r9:(i:Int)<(n:Int):=(by omega);have i9:IntKind.i64.wrap ((x.at':Int)+x.r.a)=yW x:=(by rw [ZH];unfold yW;omega);have a8:=lh J;have a5:=lh c4;have cA:wr.cell? ⟨A,0,none⟩=some (.int .i64 a):=yB c4 e0 g4.out.cell;have o4:A<wr.heap.size:=zl e0 c4.size;obtain⟨sx,c9⟩:∃s,yW x=s:=⟨_,rfl⟩;rw [c9] at i9;have k8:=lh c9;clear J c4 er el k7 hx o3 c9;gi_upto_region 6 with fail;have a9:=qal wr (.cells #[x.r.a,x.r.len,.int .u8 x.r.level,x.r.wide,.int .i8 x.r.fin,x.at',x.line] 152);have b0:=zL wr (.cells #[x.r.a,x.r.len,.int .u8 x.r.level,x.r.wide,.int .i8 x.r.fin,x.at',x.line] 152);generalize wr.alloc _=Z at a9 b0 ⊢;obtain⟨C,hC⟩:=nm (wr.heap.size);have k9:=lh (a5.out.trans (a9.mono a5.out.size));replace cA:=yB a9 o4 cA;rw [hC] at b0 ⊢;obtain⟨y0,-,-,-,-,y5⟩:=qc6 b0;clear x0 x1 x2 x3 x4 x5 x6 a9 b0;by_cases g5:sx≤(a:Int)
    ·have d1:decide (sx≤(a:Int))=true:=zQ g5;have J:=a8.out;rw [k8.out,Zg g5] at J;have j0:=lh J;clear J a8;gi_wp2;go_roundw
     case rel=>exact⟨i+1,i,by omega,by go_num,rfl,by omega,by omega,j0.out,k9.out⟩
     case measure=>simp [intOf];omega
    ·have d1:decide (sx≤(a:Int))=false:=zP g5;have J:=a8.out;rw [k8.out,Zf g5] at J;have j0:=lh J;clear J a8;gi_wp2;go_roundw
     case rel=>exact⟨i+1,k,by omega,by go_num,rfl,by omega,by omega,j0.out,k9.out⟩
     case measure=>simp [intOf];omega
   ·obtain rfl:i=n:=(by omega);rw [ql (by have:=HN.out;omega),yBv] at J;have a8:=lh J;have a5:=lh c4;clear J c4;by_cases e8:k<0
    ·have dk:decide (k<0)=true:=zQ e8;gi_wp2;refine⟨_,results_tmp3 rfl _ _ _,?_,?_⟩
     ·have h:=HV.out;rw [a8.out,Zg e8] at h;rw [←h];rfl
     ·exact e7.out.trans (a5.out.mono e7.out.size)
    ·have dk:decide (k<0)=false:=zP e8;obtain⟨q,rfl⟩:∃q:Nat,k=q:=⟨k.toNat,by omega⟩;have o5:q<i:=(by omega);obtain⟨x,hx⟩:∃x,L[q]? = some x:=⟨_,zF (by have:=HN.out;omega)⟩;have l0:V=.tuple #[.int .i64 (yBm L a d),.int .i64 (yCs a d (stK O P U a0 a1 (L.getD (yBm L a d).toNat default)) 0 (-1)),true]:=by
      have h:=HV.out;rw [a8.out,Zf e8] at h;exact h.symm
     have l1:yBm L a d=if yEt L a d q=true then (q:Int)-1 else (q:Int):=by unfold yBm;rw [a8.out]
     have l2:=lh l0;have d4:=lh l1;have g6:=lh hx;clear l0 l1 e8 HV a8;gi_upto_region 11 with fail;refine wpIn_wide.2 ?_;obtain⟨b1,c6⟩:∃b,(decide (0<(q:Int))&&d&&decide (yW x=(a:Int)))=b:=⟨_,rfl⟩;have b5:=lh c6;clear c6;go_cut [71] from 44 to 70 (fun v wx=>v=.bool b1∧Below wr wr wx)
     case first=>as_aux_lemma =>
      obtain⟨G,eG,x0,x1,x2,x3,x4,x5,x6⟩:=i7.out wr a5.out q x g6.out;subst eG;obtain⟨i9,_⟩:=yI7 (d7.out x (zS g6.out)) hs;have cA:wr.cell? ⟨A,0,none⟩=some (.int .i64 a):=yB a5.out e0 g4.out.cell;have s0:wr.cell? ⟨B,1,none⟩=some (.bool d):=yB a5.out (by omega) (ce k3.out);have cP:wr.cell? ⟨Pb,6,none⟩=some (.slice (some ⟨G,0,none⟩) i cap):=(by have h:=yB a5.out (by omega) P6.out;rw [HN.out] at h;exact h);have s1:(q:Int)<(i:Int):=(by omega);obtain⟨sx,c9⟩:∃s,yW x=s:=⟨_,rfl⟩;rw [c9] at b5 i9;clear c9;by_cases l3:0<q
      ·have e9:0<(q:Int):=(by omega);have dq:decide (0<(q:Int))=true:=zQ e9;have o6:decide (0<q)=true:=zQ l3;cases d with
       | true =>
         by_cases g7:sx=(a:Int)
         ·have o7:(sx==(a:Int))=true:=ZD.2 g7;have z:b1=true:=(by rw [←b5.out,zQ e9,zQ g7];rfl);subst z;go_quiet (fail);go_wp2;go_meet
          case rel=>exact⟨rfl,yI (Zc _ _) _⟩
         ·have o7:(sx==(a:Int))=false:=zN.2 g7;have z:b1=false:=(by rw [←b5.out,zP g7,Bool.and_false]);subst z;go_quiet (fail);go_wp2;go_meet
          case rel=>exact⟨rfl,yI (Zc _ _) _⟩
       | false =>
         have z:b1=false:=(by rw [←b5.out,Bool.and_false,Bool.false_and]);subst z;go_quiet (fail);go_wp2;go_meet
         case rel=>exact⟨rfl,yI (Zc _ _) _⟩
      ·have e9:¬ 0<(q:Int):=(by omega);have dq:decide (0<(q:Int))=false:=zP e9;have o6:decide (0<q)=false:=zP l3;have z:b1=false:=(by rw [←b5.out,zP e9,Bool.false_and,Bool.false_and]);subst z;go_quiet (fail);go_wp2;go_meet
       case rel=>exact⟨rfl,yI (Zc _ _) _⟩
     case rest =>
      obtain⟨W3,o8⟩:∃W,W=wc:=⟨_,rfl⟩;subst o8;obtain⟨rfl,d5⟩:=hcut;have b6:=lh (a5.out.trans (d5.mono a5.out.size));have g8:=lh (show yEt L a d (q:Int)=(b1&&decide (yE0 (L.getD (q-1) default)=(a:Int))&&cutR (L.getD (q-1) default)) by unfold yEt;rw [ZC,getD_some g6.out,←b5.out]);clear d5 a5;go_upto_if 71 with fail;refine wpIn_wide.2 ?_;go_cut [8] from 72 to 98 (fun v8 wx=>v8=.int .i64 (yBm L a d)∧Below W3 W3 wx)
      case first =>
       cases b1 with
       | false =>
         have a6:yBm L a d=q:=(by rw [d4.out,g8.out];rfl);have c5:=lh a6;clear a6;go_wp2;go_meet
         case rel=>exact⟨by rw [c5.out],Zc _ _⟩
       | true =>
         obtain⟨m,hm⟩:∃m,q=m+1:=by
          have h:=b5.out;simp only [ZU,ZX] at h;exact⟨q-1,by omega⟩
         have s2:(m:Int)<(i:Int):=(by omega);have s3:IntKind.i64.wrap ((q:Int)-1)=(m:Int):=(by rw [ZH];omega);obtain⟨y,hy⟩:∃y,L[m]? = some y:=⟨_,zF (by have:=HN.out;omega)⟩;have b7:=g8.out;rw [show q-1=m by omega,getD_some hy,Bool.true_and] at b7;have g9:=lh b7;have o9:=lh hm;obtain⟨G,eG,x0,x1,x2,x3,x4,x5,x6⟩:=i7.out W3 b6.out m y hy;subst eG;obtain⟨p1,l4,_⟩:=yI7 (d7.out y (zS hy)) hs;have cA:W3.cell? ⟨A,0,none⟩=some (.int .i64 a):=yB b6.out e0 g4.out.cell;have p2:A<W3.heap.size:=yD cA;have cP:W3.cell? ⟨Pb,6,none⟩=some (.slice (some ⟨G,0,none⟩) i cap):=(by have h:=yB b6.out (by omega) P6.out;rw [HN.out] at h;exact h);obtain⟨sy,l5⟩:∃s,yW y=s:=⟨_,rfl⟩;obtain⟨ey,b8⟩:∃s,yE0 y=s:=⟨_,rfl⟩;rw [l5] at p1 l4;rw [b8] at l4 g9;clear l5 b8 b7 hm hy g8;go_upto_region 13 with fail;have a9:=qal W3 (.cells #[y.r.a,y.r.len,.int .u8 y.r.level,y.r.wide,.int .i8 y.r.fin,y.at',y.line] 152);have b0:=zL W3 (.cells #[y.r.a,y.r.len,.int .u8 y.r.level,y.r.wide,.int .i8 y.r.fin,y.at',y.line] 152);generalize W3.alloc _=Z at a9 b0 ⊢;obtain⟨C,hC⟩:=nm (W3.heap.size);replace cA:=yB a9 p2 cA;have f0:=lh a9;rw [hC] at b0
         try rw [hC]
         obtain⟨y0,y1,y2,y3,y4,y5⟩:=qc6 b0;have h0:=lh (ccut_any y.r.a y.r.len y.r.level y.r.wide y.r.fin Z);clear x0 x1 x2 x3 x4 x5 x6 a9 b0 cP;by_cases b8:ey=(a:Int)
         ·have de:(ey==(a:Int))=true:=ZD.2 b8;cases hcu:yDm y.r.fin with
          | true =>
            have a6:yBm L a d=m:=by
             rw [d4.out,g9.out,Zg (by rw [zQ b8];exact hcu),o9.out];omega
            have c5:=lh a6;rw [hcu] at h0;clear a6 hcu;go_wp2_with (go_at_call 110;refine h0.out.mono ?_;rintro e w7 ⟨rfl,f4⟩;have j1:=lh f4;clear f4);go_meet
            case rel=>exact⟨by rw [c5.out],f0.out.trans (j1.out.mono f0.out.size)⟩
          | false =>
            have a6:yBm L a d=q:=by
             rw [d4.out,g9.out,Zf (by rw [zQ b8];show ¬ (yDm y.r.fin=true);rw [hcu];decide)]
            have c5:=lh a6;rw [hcu] at h0;clear a6 hcu;go_wp2_with (go_at_call 110;refine h0.out.mono ?_;rintro e w7 ⟨rfl,f4⟩;have j1:=lh f4;clear f4);go_meet
            case rel=>exact⟨by rw [c5.out],f0.out.trans (j1.out.mono f0.out.size)⟩
         ·have de:(ey==(a:Int))=false:=zN.2 b8;have a6:yBm L a d=q:=by
           rw [d4.out,g9.out,Zf (by rw [zP b8,Bool.false_and];decide)]
          have c5:=lh a6;clear a6;go_wp2;go_meet
          case rel=>exact⟨by rw [c5.out],f0.out⟩
      case rest =>
       obtain⟨W4,p3⟩:∃W,W=wc:=⟨_,rfl⟩;subst p3;obtain⟨rfl,d5⟩:=hcut;obtain⟨kk,a7,s4⟩:∃kk:Nat,yBm L a d=kk∧kk<i:=by
        rw [d4.out];by_cases b7:yEt L a d q=true
        ·rw [Zg b7];unfold yEt at b7;simp only [ZU,ZX] at b7;exact⟨q-1,by omega,by omega⟩
        ·rw [Zf b7];exact⟨q,rfl,o5⟩
       obtain⟨t,h2⟩:∃x,L[kk]? = some x:=⟨_,zF (by have:=HN.out;omega)⟩;have j2:=l2.out;rw [a7,ZC,getD_some h2] at j2;rw [a7];have l6:=lh j2;have l7:=lh (e7.out.trans ((b6.out.trans (d5.mono b6.out.size)).mono e7.out.size));have j3:=lh (b6.out.trans (d5.mono b6.out.size));have l8:=d7.out t (zS h2);have h4:=lh l8;have l9:=lh h2;clear d5 j2 l2 d4 g8 b6 b5 g6 l8 a7 h2;gi_upto_region 16 with fail;have h5:=Boxed.new W4 3 (.int .i64 (-1));have h6:=qal W4 (.cells #[.int .i64 (-1)] 3);have m0:=zM W4 (.cells #[.int .i64 (-1)] 3);generalize W4.alloc _=W5 at h5 h6 m0 ⊢;have f5:=lh (l7.out.trans (h6.mono l7.out.size));have m1:=lh (j3.out.trans (h6.mono j3.out.size));have p4:=j3.out.size;obtain⟨F,hF⟩:=nm (W4.heap.size);rw [hF] at h5 m0 p4
       try rw [hF]
       have m2:=yA6 h4.out;have m3:∀s∈stopsI (layI t.line O P U a0 a1 t.r.a t.r.len t.r.wide) t.r.fin,s.a≤2097152:=fun s p5=>by
        have h1:=(yB3 T O P U a0 a1 t h4.out).1 _ (ZG.2 ⟨s,p5,rfl⟩);obtain⟨k1,k5⟩:=h1.2.2.1;have h3:s.a+t.at'≤T.size:=k5.1;omega
       have j4:(stopsI (layI t.line O P U a0 a1 t.r.a t.r.len t.r.wide) t.r.fin).length≤8388608:=by
        obtain⟨Q,n0,nc,pf,hf,eQ,en,ec,s5,s6,f1,f2,f3,_⟩:=yA3 t.line (by omega) O P U a0 a1 t.r.a t.r.len t.r.wide t.r.fin;rw [eQ];omega
       have h7:=lh (pall_any T hs O P U a0 a1 L (by rw [HN.out];exact k0) kk t l9.out h4.out base Pb W5 (d6.out W5 f5.out).1 (d6.out W5 f5.out).2.1 (d6.out W5 f5.out).2.2);have f6:=l6.out;rw [yIe] at f6;obtain⟨Q,hQ⟩:=nm (stopsI (layI t.line O P U a0 a1 t.r.a t.r.len t.r.wide) t.r.fin);rw [hQ] at h7 m3 j4 f6;obtain⟨h8,m4⟩:∃a,t.at'=a:=⟨_,rfl⟩;rw [m4] at h7 f6 m2;have p7:h8≤2097152:=(by omega);have s7:(Q.map (shS h8)).length≤8388608:=(by rw [zK];exact j4);have m5:=lh f6;clear f6 hQ m4 m2 l6 l9 h4 h6;gi_wp2;refine⟨trivial,?_⟩;refine (qG.2 h7.out).mono ?_;rintro e' W6 ⟨E,X,rfl,⟨G,p8,s8,e1,e2,e3,e4,e5,e6,hE,hX,hG⟩,h9⟩;obtain⟨M,hM⟩:=nm (W6.heap.size);rw [hM] at e4 e5 e6;have j5:=m1.out.trans (h9.mono m1.out.size);have m6:Boxed W6 F 3 (.int .i64 (-1)):=(h9.block F (by omega)).trans h5;have m7:Boxed W6 A 3 (.int .i64 a):=(j5.block A e0).trans g4.out;have m8:W6.heap[B]? = some (.cells #[c,d,cw] 33 (0,0)):=(j5.block B (by omega)).trans k3.out;have m9:Below B w W6:=hB▸f5.out.trans (h9.mono f5.out.size);have p9:Hid (FnJ w B A F c cw d a [] W6):=lh ⟨-1,m6,fun R=>rfl,m7,m8,m9⟩;have q2:=lh hE;have q3:=lh hX;have q4:=lh hG;have s9:B<F:=(by omega);have t0:A<F:=(by omega);clear h9 j5 m6 m7 m8 m9 h7 hE hX hG h5;gi_wp2;refine yEr (by omega) (gf:=162) (lb:=#[.pointer (some ⟨E,0,none⟩),.pointer (some ⟨X,0,none⟩)]) rfl trivial (qJ Tryz.func162 (by kernel_rfl) rfl)
        (yNi E X G B h8 Q (some ⟨G,0,none⟩) p8 p7 m3 j4 (fun _=>rfl) W6 (by omega) q2.out q3.out (fun _=>q4.out)) (fun h k=>KpL.trans h k) (kpL_put (w:=W6) (by omega)) (fun W o hW=>⟨(Zc _ _).alloc (by omega) _,fun b z p hp hc=>((Zc W.heap.size W).alloc (zT _) o |>.block b (zH.1 hp).1).trans hp⟩) (Zc _ _) (fun _=>rfl)
        (FnJ w B A F c cw d a) (fun _ _ _=>False) ?hI (fun _ _ _ _ _ h _ _=>h) p9.out
        (fun x c'=>{ tmps:=#[.pointer (some ⟨Pb,0,none⟩),.agg #[.int .i64 c,.bool d,.int .i64 cw],undef,.pointer (some ⟨B,0,none⟩),.int .i64 0,.int .i64 0,.bool false,.pointer (some ⟨A,0,none⟩),.int .i64 kk,u9,u10,u11,.pointer (some ⟨F,0,none⟩),.int .i64 x.1,.pointer (some ⟨c',0,none⟩),u15,u16,u17,u18,u19,u20,u21,.pointer (some ⟨Pb,0,none⟩),.pointer (some ⟨Pb,0,none⟩),.pointer (some ⟨Pb,6,none⟩),.slice pa i cap,.int .i64 i,.int .i64 i,.bool false,u29,u30,u31,u32,u33,u34,u35,u36,u37,u38,u39,u40,u41,.int .i64 q,.bool false,u44,u45,u46,u47,u48,u49,u50,u51,u52,u53,u54,u55,u56,u57,u58,u59,u60,u61,u62,u63,u64,u65,u66,u67,u68,u69,u70,.bool b1,u72,u73,u74,u75,u76,u77,u78,u79,u80,u81,u82,u83,u84,u85,u86,u87,u88,u89,u90,u91,u92,u93,u94,u95,u96,u97,u98,.pointer (some ⟨Pb,0,none⟩),.int .i64 kk,.func (.func 162) #[] #[.pointer (some ⟨E,0,none⟩),.pointer (some ⟨X,0,none⟩)],.int .i64 x.1,yAy x.2,undef,undef,undef,undef,undef,undef,undef,undef,undef,undef,undef,undef,undef,undef,undef,undef,undef,undef],defers:=[] })
        (fun x=>.cells #[.int .i64 x.2.a,.bool x.2.back,.int .i64 (-1)] 33) ?assign ?body ?done ?stop
       case hI =>
        rintro pre Y Y' row ⟨f,r1,r2,r3,r4,r5⟩ hg j6;rw [hM] at j6;have hr:∀j,row=some j→∃o,Y.heap[j]? = some o∧o.isCells=false:=fun j e=>by
         rcases j6 j e with h | ⟨_,h⟩
         ·omega
         ·exact h
        exact⟨f,yV r1 hg hr,r2,yV r3 hg hr,(hg.block B (zH.1 r4).1 (fun e=>by obtain⟨o,H,hc⟩:=hr B e.symm;rw [r4] at H;cases H;cases hc)).trans r4,r5.grown hg (by have:=r5.size;omega) (fun j e=>by rcases j6 j e with h | ⟨h,_⟩ <;> omega)⟩
       case assign =>
        intro l t1 W K hK;unfold encI yAy;gi_wp2;exact hK
       case body =>
        rintro l pre y c' W ⟨f,r1,r2,r3,r4,r5⟩ n1 hc j7;rw [hM] at hc;have i0:=numS_at _ 0 pre y n1;rw [Za] at i0;obtain⟨m,hm⟩:=nm (pre.length);rw [hm] at i0 r2;obtain⟨ya,j8⟩:∃q,y.2.a=q:=⟨_,rfl⟩;obtain⟨yb,j9⟩:∃q,y.2.back=q:=⟨_,rfl⟩;have n2:∀R,yCs a d ((pre++[y]).map (·.2)++R) 0 (-1)=yCs a d R (m+1) (if ya=a∧(f<0∨yb=d) then (m:Int) else f):=fun R=>by
         rw [zW,ZA,zZ,r2,ZN,yCs,j8,j9]
        have q0:W.cell? ⟨c',0,none⟩=some (.int .i64 ya):=(by rw [←j8];simp [World.cell?,j7]);have q1:W.cell? ⟨c',1,none⟩=some (.bool yb):=(by rw [←j9];simp [World.cell?,j7]);have cA:=r3.cell;have cF:=r1.cell;have fF:=r1.frozen;obtain⟨-,cB⟩:=qc2 r4;have R1:=lh r1;have R3:=lh r3;have R4:=lh r4;have R5:=lh r5;have i1:=lh hm;have i2:=lh n2;have n3:Hid (∀b∈[E,X,G],b≠F):=lh (fun b z=>by
         simp only [zX,ze,or_false] at z;rcases z with rfl | rfl | rfl <;> omega)
        simp only [i0];clear r1 r2 r3 r4 r5 n1 hm j7 n2 j8 j9 i0;by_cases g:ya=a
        ·have dg:((ya:Int)==(a:Int))=true:=ZD.2 (by omega);have q5:(ya==a)=true:=ZD.2 g;by_cases g2:f<0
         ·have d2:decide (f<0)=true:=zQ g2;have HE:=lh (fun R=>(i2.out R).trans (by rw [Zg ⟨g,.inl g2⟩]));gi_upto_region 19 with fail;refine yc (by kernel_rfl) (fun _ _ h=>h) ?_;go_wp2;gi_wp2;have f7:Below B W (W.setCell ⟨F,0,none⟩ (.int .i64 m)):=(Zc _ _).setCell (p:=⟨F,0,none⟩) (by show B≤F;omega) _;have a7:∀{b:Nat} {o:Obj},b≠F→W.heap[b]? = some o→(W.setCell ⟨F,0,none⟩ (.int .i64 m)).heap[b]? = some o:=fun {b o} c7 H=>((Zu W F (.int .i64 m)).block b (zH.1 H).1 (fun e=>c7 (zu e))).trans H;refine⟨(ZT _ _ _).from _,⟨f7,fun b z o H _=>a7 (n3.out b z) H⟩,(m:Int),yM (i:=0) R1.out _,?_,a7 (by omega) R3.out,a7 (by omega) R4.out,R5.out.trans f7⟩;intro R;rw [zJ,i1.out,ZM];exact HE.out R
         ·have d2:decide (f<0)=false:=zP g2;by_cases g3:yb=d
          ·have d3:(yb==d)=true:=ZD.2 g3;have HE:=lh (fun R=>(i2.out R).trans (by rw [Zg ⟨g,.inr g3⟩]));gi_upto_region 19 with fail;refine yc (by kernel_rfl) (fun _ _ h=>h) ?_;go_wp2;gi_wp2;have f7:Below B W (W.setCell ⟨F,0,none⟩ (.int .i64 m)):=(Zc _ _).setCell (p:=⟨F,0,none⟩) (by show B≤F;omega) _;have a7:∀{b:Nat} {o:Obj},b≠F→W.heap[b]? = some o→(W.setCell ⟨F,0,none⟩ (.int .i64 m)).heap[b]? = some o:=fun {b o} c7 H=>((Zu W F (.int .i64 m)).block b (zH.1 H).1 (fun e=>c7 (zu e))).trans H;refine⟨(ZT _ _ _).from _,⟨f7,fun b z o H _=>a7 (n3.out b z) H⟩,(m:Int),yM (i:=0) R1.out _,?_,a7 (by omega) R3.out,a7 (by omega) R4.out,R5.out.trans f7⟩;intro R;rw [zJ,i1.out,ZM];exact HE.out R
          ·have d3:(yb==d)=false:=zN.2 g3;have HE:=lh (fun R=>(i2.out R).trans (by rw [Zf (fun h=>h.2.elim g2 g3)]));gi_upto_region 19 with fail;refine yc (by kernel_rfl) (fun _ _ h=>h) ?_;go_wp2;gi_wp2;refine⟨KeepsFrom.refl _ _,⟨Zc _ _,fun b z o H _=>H⟩,f,R1.out,?_,R3.out,R4.out,R5.out⟩;intro R;rw [zJ,i1.out,ZM];exact HE.out R
        ·have dg:((ya:Int)==(a:Int))=false:=zN.2 (by omega);have q5:(ya==a)=false:=zN.2 g;have HE:=lh (fun R=>(i2.out R).trans (by rw [Zf (fun h=>g h.1)]));gi_upto_region 19 with fail;refine yc (by kernel_rfl) (fun _ _ h=>h) ?_;go_wp2;gi_wp2;refine⟨KeepsFrom.refl _ _,⟨Zc _ _,fun b z o H _=>H⟩,f,R1.out,?_,R3.out,R4.out,R5.out⟩;intro R;rw [zJ,i1.out,ZM];exact HE.out R
       case done =>
        rintro D xs W hD n4 ⟨f,r1,r2,r3,r4,r5⟩ hK;have n5:yCs a d (Q.map (shS h8)) 0 (-1)=f:=by
         have h:=r2 [];rw [zq,n4,yK0] at h;rw [h,yCs]
        have hv:=m5.out;rw [n5] at hv;subst hv;have c0:=r1.cell;have R5:=lh r5;clear r1 r2 r3 r4 r5 n4 n5 m5;gi_upto_region 21 with fail;refine wpIn_wide.2 ?_;have n6:∀n,(W.drewN n).heap[D]? = some (.deferred (some [])):=fun n=>hK;go_quiet (fail);gi_wp2;refine⟨by simp,.inl ⟨_,_,rfl,Zv (n6 _),?_⟩⟩;refine⟨_,results_tmp3 rfl _ _ _,rfl,?_⟩
        try rw [hB]
        exact (R5.out.trans (yI (Zc _ _) _)).trans (JY (w:=w) (by omega) _ D _ _ (by omega) (n6 _) rfl rfl)
       case stop =>
        rintro D c pre W hD _ h _;exact h.elim
theorem yKs (T:ByteArray) (U:T.size≤65536) (b d:Int) (f g k:Bool) (L:List OneR) (F:L.length≤1048576) (H:∀x∈L,yBl T x) (c v:Int) (p:Bool) (i j:Nat) (x:OneR) (y:L[i]? = some x) (V:yEo T b d f g k L c p=((i:Int),(j:Int))) (a4:0≤yBv (ctI T c) L 0 (-1))
 (I:Int) (m:Nat) (hm:(j:Int)+I=m) (s:St) (z:(stK b d f g k x)[m]? = some s) (base t:Nat) (w:World) (J:yE9 w base t T b d f g k L) (X:T8 w) (Y:DB w) :
 Calls Tryz.prog 70 #[.pointer (some ⟨t,0,none⟩),.agg #[c,p,v],I] w fun e w'=>e=.returned (yAy s)∧Below w w w':=by
 have K:=H x (zS y);have l:=lh (fun (W:World) (h:Below w w W)=>(⟨J.below h,X.below rfl h,Y.below h⟩:yE9 W base t T b d f g k L∧T8 W∧DB W));have Z:=lh (fun (W:World) (h:Below w w W)=>(yFc T U b d f g k L F H c v p base t W (l.out W h).1 (l.out W h).2.1 (l.out W h).2.2).mono (fun e w' h=>(by rw [Zf (by omega),V] at h;exact h:e=.returned (.tuple #[i,j,true])∧Below W W w')));have M:=lh (fun (W:World) (h:Below w w W)=>yG9 T U b d f g k L F i x y K base t W (l.out W h).1 (l.out W h).2.1 (l.out W h).2.2);obtain⟨Q,A⟩:=nm (stK b d f g k x);have a5:Q.length≤16777216:=by
  obtain⟨Q',n0,nc,pf,hf,eQ,en,ec,b3,b4,f1,f2,f3,_⟩:=yA3 x.line (by have:=yA6 K;omega) b d f g k x.r.a x.r.len x.r.wide x.r.fin;have h:=Zb List.length A;rw [yIe,zK,eQ] at h;omega
 obtain⟨q,u⟩:=nm (Q.length);rw [A,u] at M;rw [A] at z;rw [u] at a5;have a6:=lh u;have a7:=(zG.1 z).1;rw [u] at a7;have b5:IntKind.i64.wrap ((j:Int)+I)=(m:Int):=by rw [ZH];omega
 have b6:(m:Int)<(q:Int):=by omega
 have b7:decide ((m:Int) ≥ 0)=true:=zQ (by omega);have a8:=lh z;clear z hm;have a9:=(zG.1 y).1;obtain⟨n,N⟩:=nm (L.length);have HN:=lh N;rw [N] at a9 F;obtain⟨h0,C,O,a0⟩:=yBq w (.cells #[c,p,v] 33) (.cells #[.int .i64 0,false,.int .i64 0] 33);have b0:=J.lt;clear J X Y V a4 K H A y N u;go_enter Tryz.func70,Tryz.ntmps70;go_upto_region 1 with fail;generalize (w.alloc _).alloc _=W1 at h0 C O a0 ⊢;obtain⟨B,hB⟩:=nm (w.heap.size);have P:=lh O;rw [hB] at h0 C a0 b0
 try rw [hB]
 obtain⟨c0,c1,c2⟩:=qc3 h0;have a1:=lh (Z.out W1 P.out);go_upto_region 2 with (go_at_call 71;refine a1.out.mono ?_;rintro e w2 ⟨rfl,D⟩);have R:=lh (P.out.trans (D.mono P.out.size));have b8:=D.size;have g1:=(D.block (B+1) (by omega)).trans C;have a2:=lh (M.out w2 R.out);clear h0 C O D c0 c1 c2 a1 Z;go_upto_region 5 with (go_at_call 73;refine a2.out.mono ?_;rintro e S ⟨qa,qc,rfl,hO,E⟩);have b1:=lh (R.out.trans (E.mono R.out.size));have b9:=E.size;have o:=(E.block (B+1) (by omega)).trans g1;have HO:=lh hO;clear hO E g1 a2 M;obtain⟨G,eG,sa,sb,sc⟩:=yGc a6.out HO.out m s a8.out;subst eG;obtain⟨e0,e1,e2⟩:=qc3 o;have f0:S.frozen? ⟨B+1,0,none⟩=false:=fz o;have f1:S.frozen? ⟨B+1,1,none⟩=false:=fz o;have f2:S.frozen? ⟨B+1,2,none⟩=false:=fz o;obtain⟨hg,a3⟩:=yT o (.int .i64 s.a) (.bool s.back) (.int .i64 (-1));have HG:=lh hg;have b2:=lh (b1.out.trans (a3.mono (by omega)));clear o hg a3;go_wp2;exact qC (JT (ty:=33) rfl _ _ (B+1) _ _ _ _ rfl HG.out yh rfl yu) rfl ⟨rfl,b2.out⟩
theorem yCi (w:World) (a b c:Obj):(((w.alloc a).alloc b).alloc c).heap[w.heap.size]? = some a∧(((w.alloc a).alloc b).alloc c).heap[w.heap.size+1]? = some b∧(((w.alloc a).alloc b).alloc c).heap[w.heap.size+2]? = some c∧Below w w (((w.alloc a).alloc b).alloc c)∧(((w.alloc a).alloc b).alloc c).heap.size=w.heap.size+3:=by
 obtain⟨h0,g,h,i⟩:=yBq w a b;have d:Below ((w.alloc a).alloc b).heap.size ((w.alloc a).alloc b) (((w.alloc a).alloc b).alloc c):=(Zc _ _).alloc (zT _) _;have e:=zL ((w.alloc a).alloc b) c;have f:=zM ((w.alloc a).alloc b) c;rw [i] at e f;exact⟨(d.block _ (by omega)).trans h0,(d.block _ (by omega)).trans g,e,h.trans (d.mono (by omega)),f⟩
theorem yLz (T:ByteArray) (hs:T.size≤65536) (C f g:Int) (j r k:Bool) (c y:Int) (z:Bool) (s:St) (hn:(pageI T C f g j k).length≤1000000)
 (Q:∀(base D:Nat) (W:World),yE9 W base D T f g j r k (pageI T C f g j k)→T8 W→DB W→Calls Tryz.prog 70 #[.pointer (some ⟨D,0,none⟩),.agg #[c,z,y],.int .i64 1] W fun e w'=>e=.returned (yAy s)∧Below W W w')
 (w:World) (R:T8 w) (U:DB w) :
 Calls Tryz.prog 36 #[T,C,.agg #[f,j,.int .i8 g,r,k],.agg #[c,z,y]] w fun e w'=>e=.returned (yAy s)∧Below w w w':=by
 have E:=lh (fun (W:World) (h:Below w w W)=>(⟨R.below rfl h,U.below h⟩:T8 W∧DB W));have b4:=lh (fun (W:World) (h:Below w w W)=>yIl T hs C f g j r k hn W (E.out W h).1 (E.out W h).2);have b5:=lh Q;obtain⟨h0,t,F,V,X⟩:=yCi w (.cells #[f,j,.int .i8 g,r,k] 26) (.cells #[c,z,y] 33) (.cells #[.int .i64 0,false,.int .i64 0] 33);clear R U Q;go_enter Tryz.func36,Tryz.ntmps36;go_upto_region 1 with fail;generalize ((w.alloc _).alloc _).alloc _=W1 at h0 t F V X ⊢;obtain⟨B,Y⟩:=nm (w.heap.size);have q:=lh V;rw [Y] at h0 t F X
 try rw [Y]
 obtain⟨S,L⟩:∃S:World→Prop,(fun W=>yi [B,B+1] W1 W)=S:=⟨_,rfl⟩;have Z:∀W,S W→yi [B,B+1] W1 W:=fun W h=>by rw [←L] at h;exact h
 have M:∀W,yi [B,B+1] W1 W→S W:=fun W h=>by rw [←L];exact h
 have d:∀(b i:Nat) (u:Value),b∈[B,B+1]→W1.cell? ⟨b,i,none⟩=some u→∀p:WIn S,p.w.cell? ⟨b,i,none⟩=some u:=fun b i u l h p=>(yBb (Z _ p.h b l)).trans h;have a0:=d B 0 (.int .i64 f) (by simp) (ce h0);have a1:=d B 1 (.bool j) (by simp) (ce h0);have a2:=d B 2 (.int .i8 g) (by simp) (ce h0);have a3:=d B 3 (.bool r) (by simp) (ce h0);have a4:=d B 4 (.bool k) (by simp) (ce h0);have b0:=d (B+1) 0 (.int .i64 c) (by simp) (ce t);have b1:=d (B+1) 1 (.bool z) (by simp) (ce t);have b2:=d (B+1) 2 (.int .i64 y) (by simp) (ce t);have m:=lh M;have b6:Nonempty (WIn S):=⟨⟨W1,M _ (fun _ _=>rfl)⟩⟩;have H2:=lh F;have N:∀b∈[B,B+1],b<W1.heap.size:=fun b l=>by
  simp only [zX,ze,or_false] at l;rcases l with rfl | rfl <;> omega
 clear d Z M L h0 t F;refine yn S (by kernel_rfl) ?_;have G:Below W1 W1 W1.drew:=(Zc _ _).drew;have a5:yi [B,B+1] W1 W1.drew:=fun _ _=>rfl;generalize W1.drew=X0 at G a5 ⊢;have HL:=lh (b4.out X0 (q.out.trans (G.mono q.out.size)));refine yAq [0,1,2,4] 3 [_,_,_,_] (fuel:=2) yC (by kernel_rfl) (m.out _ a5) ?_
 repeat (go_big_quiet_step (fail))
 refine Zt ?_;intro K n;go_wp2_with (go_at_call 69;refine HL.out.mono ?_;rintro e H ⟨D,rfl,b9,a6,a7⟩);have v:=G.trans (a7.mono G.size);have O:yi [B,B+1] W1 H:=yi.below (W:=W1) (fun _ _=>rfl) v N;refine n.out _ _ (m.out _ O) ?_;clear n;have a8:=lh (b5.out _ D H a6 (E.out H (q.out.trans (v.mono q.out.size))).1 (E.out H (q.out.trans (v.mono q.out.size))).2);refine yj 5 (fuel:=1) yC (by kernel_rfl) (m.out _ O) fun K n=>?_;go_wp2_with (go_at_call 70;refine a8.out.mono ?_;rintro e A ⟨rfl,a9⟩);have I:=v.trans (a9.mono v.size);have J:yi [B,B+1] W1 A:=yi.below (W:=W1) (fun _ _=>rfl) I N;refine n.out _ _ (m.out _ J) ?_;clear n a8;have x:=(I.block (B+2) (by omega)).trans H2.out;obtain⟨e0,e1,e2⟩:=qc3 x;have f0:A.frozen? ⟨B+2,0,none⟩=false:=fz x;have f1:A.frozen? ⟨B+2,1,none⟩=false:=fz x;have f2:A.frozen? ⟨B+2,2,none⟩=false:=fz x;refine yj 6 (fuel:=0) yC (by kernel_rfl) (m.out _ J) fun K n=>?_;unfold yAy;go_wp2;obtain⟨hg,b3⟩:=yT x (.int .i64 s.a) (.bool s.back) (.int .i64 (-1));have P:yi [B,B+1] W1 (((A.setCell ⟨B+2,0,none⟩ (.int .i64 s.a)).setCell ⟨B+2,1,none⟩ (.bool s.back)).setCell ⟨B+2,2,none⟩ (.int .i64 (-1))):=fun b l=>by
  have h4:=J b l;have b7:=N b l;obtain⟨o,ho⟩:∃o,W1.heap[b]? = some o:=⟨_,qs b7⟩;rw [ho] at h4 ⊢;simp only [zX,ze,or_false] at l;exact yCp h4 (by omega) _ _ _
 refine n.out _ _ (m.out _ P) ?_;clear n;refine yAi [] yC (by kernel_rfl) (m.out _ P) ?_;simp only [yS,zE];refine Zt ?_;have HG:=lh hg;have b8:=lh (q.out.trans ((I.mono (by omega:w.heap.size≤W1.heap.size)).trans (b3.mono (by omega))));simp only [NoPanic];clear hg b3 P J O I v a7 a9 e0 e1 e2 f0 f1 f2 x a0 a1 a2 a3 a4 b0 b1 b2 b6 m a6;go_wp2;exact qC (JT (ty:=33) rfl _ _ (B+2) _ _ _ _ rfl HG.out yh rfl yu) rfl ⟨rfl,b8.out⟩
theorem yQ5 (a len c d fin:Int) (w:World) :
 Calls Tryz.prog 116 #[.agg #[a,len,.int .u8 c,d,.int .i8 fin]] w fun e w'=>e=.returned (.agg #[a,false,.int .i64 (-1)])∧Below w w w':=by
 obtain⟨h0,b,f,g⟩:=yBq w (.cells #[a,len,.int .u8 c,d,.int .i8 fin] 24) (.cells #[.int .i64 0,false,.int .i64 0] 33);go_enter Tryz.func116,Tryz.ntmps116;go_upto_region 1 with fail;generalize (w.alloc _).alloc _=W1 at h0 b f g ⊢;obtain⟨B,h⟩:=nm (w.heap.size);have k:=lh f;rw [h] at h0 b g
 try rw [h]
 have n:=qc1 h0;obtain⟨o,p,q⟩:=qc3 b;have r:W1.frozen? ⟨B+1,0,none⟩=false:=fz b;have s:W1.frozen? ⟨B+1,1,none⟩=false:=fz b;have t:W1.frozen? ⟨B+1,2,none⟩=false:=fz b;obtain⟨i,j⟩:=yT b (.int .i64 a) (.bool false) (.int .i64 (-1));have l:=lh i;have m:=lh (k.out.trans (j.mono (by omega)));clear h0 b i j;go_wp2;exact qC (JT (ty:=33) rfl _ _ (B+1) _ _ _ _ rfl l.out yh rfl yu) rfl ⟨rfl,m.out⟩
theorem cends_home (T:ByteArray) (hs:T.size≤65536) (wd t u:Int) (y E z:Bool) (L:List OneR) (hL:pageI T wd t u y z=L) (hn:L.length≤1000000) (hR:∀x∈L,yBl T x) (c cw:Int) (O:Bool) (i:Nat) (x:OneR) (hx:L[i]? = some x)
 (hp:yBm L (ctI T c) O=(i:Int)) (d5:0≤yBv (ctI T c) L 0 (-1)) (w:World) (hT:T8 w) (q:DB w) :
 Calls Tryz.prog 79 #[T,wd,.agg #[t,y,.int .i8 u,E,z],.agg #[c,O,cw],.int .i64 0] w fun e w'=>e=.returned (.agg #[.int .i64 (yW x),false,.int .i64 (-1)])∧Below w w w':=by
 have b9:=hR x (zS hx);have a6:=lh (fun (W:World) (h:Below w w W)=>(⟨hT.below rfl h,q.below h⟩:T8 W∧DB W));have c0:=lh (fun (W:World) (h:Below w w W)=>hL▸yIl T hs wd t u y E z (hL▸hn) W (a6.out W h).1 (a6.out W h).2);obtain⟨fo,c1⟩:=nm ((yEo T t u y E z L c O).2);have c2:yEo T t u y E z L c O=((i:Int),fo):=by rw [←c1,←hp];rfl
 have c3:=lh (fun (base Pb:Nat) (W:World) (hP:yE9 W base Pb T t u y E z L) (h:Below w w W)=>(yFc T hs t u y E z L (by omega) hR c cw O base Pb W hP (a6.out W h).1 (a6.out W h).2).mono (fun e w' h=>(by rw [Zf (by omega),c2] at h;exact h:e=.returned (.tuple #[i,fo,true])∧Below W W w')));obtain⟨c4,d6,_⟩:=yI7 b9 hs;obtain⟨P,c5⟩:∃s,yW x=s:=⟨_,rfl⟩;rw [c5] at c4 ⊢;have HX:=lh hx;have d7:=(zG.1 hx).1;obtain⟨n,a9⟩:=nm (L.length);have HN:=lh a9;rw [a9] at d7 hn;obtain⟨h0,h1,h2,c6,c7⟩:=yCi w (.cells #[t,y,.int .i8 u,E,z] 26) (.cells #[c,O,cw] 33) (.cells #[.int .i64 0,false,.int .i64 0] 33);clear hT q hR hp d5 b9 d6 c2 c1 hx a9 hL c5;go_enter Tryz.func79,Tryz.ntmps79;go_upto_region 1 with fail;generalize ((w.alloc _).alloc _).alloc _=W1 at h0 h1 h2 c6 c7 ⊢;obtain⟨B,hB⟩:=nm (w.heap.size);have b3:=lh c6;rw [hB] at h0 h1 h2 c7
 try rw [hB]
 obtain⟨a0,a1,a2,a3,a4⟩:=qc5 h0;have H1:=lh h1;have H2:=lh h2;have HL:=lh (c0.out W1 b3.out);clear h0 h1 h2;go_upto_region 2 with (go_at_call 69;refine HL.out.mono ?_;rintro e w2 ⟨Pb,rfl,f3,b4,U⟩);have b5:=lh (b3.out.trans (U.mono b3.out.size));have f4:=U.size;have k1:=(U.block (B+1) (by omega)).trans H1.out;have K2:=lh ((U.block (B+2) (by omega)).trans H2.out);obtain⟨b0,b1,b2⟩:=qc3 k1;have c8:=lh (c3.out _ Pb w2 b4 b5.out);have c9:=lh b4;clear a0 a1 a2 a3 a4 k1 H1 H2 c0 HL U b4;go_upto_region 5 with (go_at_call 71;refine c8.out.mono ?_;rintro e w3 ⟨rfl,V⟩);have d8:=lh (b5.out.trans (V.mono b5.out.size));have d9:=V.size;have K3:=lh ((V.block (B+2) (by omega)).trans K2.out);have d1:=c9.out.below V;obtain⟨pa,cap,⟨_,_,_,_,_,_,p6⟩,d2⟩:=d1.cells;obtain⟨G,eG,x0,x1,x2,x3,x4,x5,x6⟩:=d2 i x HX.out;subst eG;rw [HN.out] at p6;have f5:(i:Int)<(n:Int):=by omega
 clear d2 V c8 c3 c9 d1 b0 b1 b2 K2;go_upto_region 7 with fail;obtain⟨A,X,a7,a8⟩:=yBq w3 (.cells #[x.r.a,x.r.len,.int .u8 x.r.level,x.r.wide,.int .i8 x.r.fin,x.at',x.line] 152) (.cells #[.func (.func 116) #[] #[],.func (.func 117) #[] #[]] 199);generalize (w3.alloc _).alloc _=W4 at A X a7 a8 ⊢;obtain⟨M,hM⟩:=nm (w3.heap.size);have d3:=lh (d8.out.trans (a7.mono (by omega)));have K4:=lh ((a7.block (B+2) (by omega)).trans K3.out);rw [hM] at A X a8 d9
 try rw [hM]
 have e3:=lh A;clear x0 x1 x2 x3 x4 x5 x6 p6 a7 K3;go_cut [17] from 42 to 47 (fun e4 wx=>∃D,e4=.pointer (some ⟨D,0,none⟩)∧M+2≤D∧wx.heap[D]? = some (.cells #[x.r.a,false,.int .i64 (-1)] 33 (0,0))∧Below W4 W4 wx)
 case first=>as_aux_lemma =>
  obtain⟨S,d4,b6⟩:∃S:World→Prop,(∀W,S W→Below W4 W4 W)∧(∀W,Below W4 W4 W→S W):=⟨fun W=>Below W4 W4 W,fun _ h=>h,fun _ h=>h⟩;have F:∀(b i:Nat) (v:Value),b<M+2→W4.cell? ⟨b,i,none⟩=some v→∀p:WIn S,p.w.cell? ⟨b,i,none⟩=some v:=fun b i v hb h p=>yB (d4 _ p.h) (by omega) h;have a0:=F M 0 (.int .i64 x.r.a) (by omega) (ce A);have a1:=F M 1 (.int .i64 x.r.len) (by omega) (ce A);have a2:=F M 2 (.int .u8 x.r.level) (by omega) (ce A);have a3:=F M 3 (.int .i64 x.r.wide) (by omega) (ce A);have a4:=F M 4 (.int .i8 x.r.fin) (by omega) (ce A);have b0:=F (M+1) 0 (.func (.func 116) #[] #[]) (by omega) (ce X);have b1:=F (M+1) 1 (.func (.func 117) #[] #[]) (by omega) (ce X);have g:=lh b6;have f6:Nonempty (WIn S):=⟨⟨W4,b6 _ (Zc _ _)⟩⟩;have e5:W4.heap.size=M+2:=a8;clear F d4 b6 A X a8;refine yn S (by kernel_rfl) ?_;have H:Below W4 W4 W4.drew:=(Zc _ _).drew;have b7:W4.drew.heap.size=M+2:=e5;generalize W4.drew=X0 at H b7 ⊢;refine yHi [0,1,2,3,4] [5,6] (fuel:=2) yC (by kernel_rfl) (g.out _ H) ?_;simp only [yS,zD,zE,zC,zB,zA];show wpQuiet _ _ _ _ [_,_,_,_,_] _
  repeat (go_big_quiet_step (fail))
  refine Zt ?_;intro k hk;rcases zX.1 hk with rfl | hk
  ·intro K Y;have d:=lh Y;clear Y;simp only [zD,zE,zC,zB,zA];show wpList _ _ _ [_] _ _;go_wp2_with (go_at_call 116;refine (yQ5 _ _ _ _ _ _).mono ?_;rintro e I ⟨rfl,j⟩);have m:=H.trans (j.mono H.size);refine d.out _ _ (g.out _ m) ?_;clear d;refine yj 6 (fuel:=1) yC (by kernel_rfl) (g.out _ m) fun K d=>?_;go_wp2;have o:=qal I (.cells #[.int .i64 0,false,.int .i64 0] 33);have f:=zL I (.cells #[.int .i64 0,false,.int .i64 0] 33);have l:=m.trans (o.mono m.size);refine d.out _ _ (g.out _ l) ?_;clear d;have e6:=m.size;obtain⟨D,q⟩:=nm (I.heap.size);generalize I.alloc _=w6 at o f l ⊢;rw [q] at f e6
   try rw [q]
   obtain⟨e0,e1,e2⟩:=qc3 f;have f0:w6.frozen? ⟨D,0,none⟩=false:=fz f;have f1:w6.frozen? ⟨D,1,none⟩=false:=fz f;have f2:w6.frozen? ⟨D,2,none⟩=false:=fz f;refine yj 7 (fuel:=0) yC (by kernel_rfl) (g.out _ l) fun K d=>?_;go_wp2;obtain⟨J,N⟩:=yT f (.int .i64 x.r.a) (.bool false) (.int .i64 (-1));have C:=l.trans (N.mono (by omega));refine d.out _ _ (g.out _ C) ?_;clear d;refine yAi [] yC (by kernel_rfl) (g.out _ C) ?_;simp only [yS,zE];refine Zt ?_;have Z:=lh J;have b8:=lh C;simp only [NoPanic];clear J N C l m H e0 e1 e2 f0 f1 f2 f o j;go_wp2;go_meet
   case rel=>exact⟨D,rfl,by omega,Z.out,b8.out⟩
  ·obtain rfl:=zO.1 hk;intro K Y;have d:=lh Y;clear Y;simp only [zD,zE,zC,zB,zA];show wpList _ _ _ [_] _ _;go_wp2;have o:=qal X0 (.cells #[.int .i64 0,false,.int .i64 0] 33);have f:=zL X0 (.cells #[.int .i64 0,false,.int .i64 0] 33);have l:=H.trans (o.mono H.size);refine d.out _ _ (g.out _ l) ?_;clear d;generalize X0.alloc _=w6 at o f l ⊢;rw [b7] at f
   try rw [b7]
   have a5:=(zH.1 f).1;refine yj 5 (fuel:=1) yC (by kernel_rfl) (g.out _ l) fun K d=>?_;go_wp2_with (go_at_call 116;refine (yQ5 _ _ _ _ _ _).mono ?_;rintro e I ⟨rfl,j⟩);have m:=l.trans (j.mono l.size);have R:=(j.block (M+2) a5).trans f;refine d.out _ _ (g.out _ m) ?_;clear d;obtain⟨e0,e1,e2⟩:=qc3 R;have f0:I.frozen? ⟨M+2,0,none⟩=false:=fz R;have f1:I.frozen? ⟨M+2,1,none⟩=false:=fz R;have f2:I.frozen? ⟨M+2,2,none⟩=false:=fz R;refine yj 7 (fuel:=0) yC (by kernel_rfl) (g.out _ m) fun K d=>?_;go_wp2;obtain⟨J,N⟩:=yT R (.int .i64 x.r.a) (.bool false) (.int .i64 (-1));have C:=m.trans (N.mono (by omega));refine d.out _ _ (g.out _ C) ?_;clear d;refine yAi [] yC (by kernel_rfl) (g.out _ C) ?_;simp only [yS,zE];refine Zt ?_;have Z:=lh J;have b8:=lh C;simp only [NoPanic];clear J N C l m H e0 e1 e2 f0 f1 f2 f R o j;go_wp2;go_meet
   case rel=>exact⟨_,rfl,zT _,Z.out,b8.out⟩
 case rest =>
  obtain⟨W5,e7⟩:∃W,W=wc:=⟨_,rfl⟩;subst e7;obtain⟨D,rfl,f7,q,j⟩:=hcut;have f8:=j.size;have e8:=lh (d3.out.trans (j.mono d3.out.size));have k5:=(j.block (B+2) (by omega)).trans K4.out;have r5:=(j.block M (by omega)).trans e3.out;have d0:=qc1 q;have df:W5.frozen? ⟨D,0,none⟩=false:=fz q;obtain⟨-,-,-,-,-,r0⟩:=qc6 r5;have f9:IntKind.i64.wrap (x.r.a+(x.at':Int))=P:=(by rw [Int.add_comm];exact c4);have HD:=lh q;have K5:=lh k5;clear j r5 q k5;go_upto_region 9 with fail;have a5:(W5.setCell ⟨D,0,none⟩ (.int .i64 P)).heap[D]? = some (.cells #[P,false,.int .i64 (-1)] 33 (0,0)):=yM (i:=0) HD.out _;have o:Below w w (W5.setCell ⟨D,0,none⟩ (.int .i64 P)):=e8.out.trans ((Zc _ _).setCell (p:=⟨D,0,none⟩) (by show w.heap.size≤D;omega) _);have Q:=((Zu W5 D (.int .i64 P)).block (B+2) (zH.1 K5.out).1 (fun e=>by cases e;omega)).trans K5.out;generalize W5.setCell _ _=W6 at a5 o Q ⊢;obtain⟨g0,g1,g2⟩:=qc3 a5;obtain⟨e0,e1,e2⟩:=qc3 Q;have f0:W6.frozen? ⟨B+2,0,none⟩=false:=fz Q;have f1:W6.frozen? ⟨B+2,1,none⟩=false:=fz Q;have f2:W6.frozen? ⟨B+2,2,none⟩=false:=fz Q;obtain⟨J,N⟩:=yT Q (.int .i64 P) (.bool false) (.int .i64 (-1));have Z:=lh J;have e9:=lh (o.trans (N.mono (by omega)));clear Q J N o a5 d0 df r0 HD K5;go_wp2;exact qC (JT (ty:=33) rfl _ _ (B+2) _ _ _ _ rfl Z.out yh rfl yu) rfl ⟨rfl,e9.out⟩
theorem cHome_any (T:ByteArray) (K:T.size≤65536) (p d f:Int) (g l j:Bool) (L:List OneR) (v:pageI T p d f g j=L) (M:L.length≤1000000) (y:∀x∈L,yBl T x) (c m:Int) (k:Bool) (i:Nat) (x:OneR) (z:L[i]? = some x)
 (A:yBm L (ctI T c) k=(i:Int)) (C:0≤yBv (ctI T c) L 0 (-1)) (w:World) (D:T8 w) (E:DB w) :
 Calls Tryz.prog 39 #[T,p,.agg #[d,g,.int .i8 f,l,j],.agg #[c,k,m]] w fun e w'=>e=.returned (.agg #[.int .i64 (yW x),false,.int .i64 (-1)])∧Below w w w':=by
 have q:=lh (fun (W:World) (h:Below w w W)=>cends_home T K p d f g l j L v M y c m k i x z A C W (D.below rfl h) (E.below h));obtain⟨r,F⟩:∃s,yW x=s:=⟨_,rfl⟩;rw [F] at q ⊢;obtain⟨h0,n,o,G,H⟩:=yCi w (.cells #[d,g,.int .i8 f,l,j] 26) (.cells #[c,k,m] 33) (.cells #[.int .i64 0,false,.int .i64 0] 33);clear D E y A C z v F;go_enter Tryz.func39,Tryz.ntmps39;go_upto_region 1 with fail;generalize ((w.alloc _).alloc _).alloc _=W1 at h0 n o G H ⊢;obtain⟨B,I⟩:=nm (w.heap.size);have t:=lh G;rw [I] at h0 n o H
 try rw [I]
 obtain⟨P,Q,R,S,U⟩:=qc5 h0;obtain⟨V,X,Y⟩:=qc3 n;have N:=lh o;have O:=lh (q.out W1 t.out);clear h0 n o q;go_wp2_with (go_at_call 79;refine O.out.mono ?_;rintro e b ⟨rfl,u⟩;have a:=(u.block (B+2) (by omega)).trans N.out;have Z:b.cell? ⟨B+2,0,none⟩=some (.int .i64 0):=(ce a);have e1:b.cell? ⟨B+2,1,none⟩=some (.bool false):=(ce a);have e2:b.cell? ⟨B+2,2,none⟩=some (.int .i64 0):=(ce a);have f0:b.frozen? ⟨B+2,0,none⟩=false:=(fz a);have f1:b.frozen? ⟨B+2,1,none⟩=false:=(fz a);have f2:b.frozen? ⟨B+2,2,none⟩=false:=(fz a);have J:=lh (show (((b.setCell ⟨B+2,0,none⟩ (.int .i64 r)).setCell ⟨B+2,1,none⟩ (.bool false)).setCell ⟨B+2,2,none⟩ (.int .i64 (-1))).heap[B+2]? = some (.cells #[r,false,.int .i64 (-1)] 33 (0,0))∧Below w w (((b.setCell ⟨B+2,0,none⟩ (.int .i64 r)).setCell ⟨B+2,1,none⟩ (.bool false)).setCell ⟨B+2,2,none⟩ (.int .i64 (-1))) from ⟨(yT a _ _ _).1,(t.out.trans (u.mono t.out.size)).trans ((yT a _ _ _).2.mono (by omega))⟩);clear u a);exact qC (JT (ty:=33) rfl _ _ (B+2) _ _ _ _ rfl J.out.1 yh rfl yu) rfl ⟨rfl,J.out.2⟩
theorem hitS_facts {T:ByteArray} {x:OneR} (g:yBl T x) (b c:Int) (d e f:Bool) (w:Int) :
 (yK9 b c d e f x w).a≤T.size∧yHo (layI x.line b c d e f x.r.a x.r.len x.r.wide) x.r.fin w∈stopsI (layI x.line b c d e f x.r.a x.r.len x.r.wide) x.r.fin:=by
 have h:=yE4 b c d e f x w;have i:=(yB3 T b c d e f x g).1 _ h;obtain⟨l,j⟩:=i.2.2.1;refine⟨j.1,?_⟩;obtain⟨_,_,_,_,k,_⟩:=yCe x.line b c d e f x.r.a x.r.len x.r.wide x.r.fin _ rfl;exact (k w).1
theorem one_set {W:World} {b:Nat} {u0 u1 u2 u3 u4 u5 u6:Value} (h:W.heap[b]? = some (.cells #[u0,u1,u2,u3,u4,u5,u6] 152 (0,0))) (f g j k l m q:Value) (X:World) (n:(World.setCell (World.setCell (World.setCell (World.setCell (World.setCell (World.setCell (World.setCell W ⟨b,0,none⟩ f) ⟨b,1,none⟩ g) ⟨b,2,none⟩ j) ⟨b,3,none⟩ k) ⟨b,4,none⟩ l) ⟨b,5,none⟩ m) ⟨b,6,none⟩ q)=X) :
 X.heap[b]? = some (.cells #[f,g,j,k,l,m,q] 152 (0,0))∧Below b W X∧∀(d:Nat) (o:Obj),d≠b→W.heap[d]? = some o→X.heap[d]? = some o:=by
 have r:∀(X:World) (i:Nat) (u:Value) (d:Nat) (o:Obj),d≠b→X.heap[d]? = some o→(X.setCell ⟨b,i,none⟩ u).heap[d]? = some o:=fun X i u d o a t=>((yF2 X b i u).block d (zH.1 t).1 (fun e=>by cases e;exact a rfl)).trans t;have s:∀(X:World) (i:Nat) (u:Value),Below b W X→Below b W (X.setCell ⟨b,i,none⟩ u):=fun X i u t=>t.setCell (p:=⟨b,i,none⟩) (zT _) u;have J:Below b W W:=Zc _ _;have K:∀(d:Nat) (o:Obj),d≠b→W.heap[d]? = some o→W.heap[d]? = some o:=fun d o _ c=>c;obtain⟨v,w⟩:∃X,World.setCell W ⟨b,0,none⟩ f=X:=⟨_,rfl⟩;have L:v.heap[b]? = some (.cells #[f,u1,u2,u3,u4,u5,u6] 152 (0,0)):=w▸yM (i:=0) h f;have M:Below b W v:=w▸s _ 0 f J;have N:∀(d:Nat) (o:Obj),d≠b→W.heap[d]? = some o→v.heap[d]? = some o:=fun d o a c=>w▸r _ 0 f d o a (K d o a c);rw [w] at n;obtain⟨x,y⟩:∃X,World.setCell v ⟨b,1,none⟩ g=X:=⟨_,rfl⟩;have O:x.heap[b]? = some (.cells #[f,g,u2,u3,u4,u5,u6] 152 (0,0)):=y▸yM (i:=1) L g;have P:Below b W x:=y▸s _ 1 g M;have Q:∀(d:Nat) (o:Obj),d≠b→W.heap[d]? = some o→x.heap[d]? = some o:=fun d o a c=>y▸r _ 1 g d o a (N d o a c);rw [y] at n;obtain⟨z,A⟩:∃X,World.setCell x ⟨b,2,none⟩ j=X:=⟨_,rfl⟩;have R:z.heap[b]? = some (.cells #[f,g,j,u3,u4,u5,u6] 152 (0,0)):=A▸yM (i:=2) O j;have S:Below b W z:=A▸s _ 2 j P;have T:∀(d:Nat) (o:Obj),d≠b→W.heap[d]? = some o→z.heap[d]? = some o:=fun d o a c=>A▸r _ 2 j d o a (Q d o a c);rw [A] at n;obtain⟨B,C⟩:∃X,World.setCell z ⟨b,3,none⟩ k=X:=⟨_,rfl⟩;have U:B.heap[b]? = some (.cells #[f,g,j,k,u4,u5,u6] 152 (0,0)):=C▸yM (i:=3) R k;have V:Below b W B:=C▸s _ 3 k S;have Y:∀(d:Nat) (o:Obj),d≠b→W.heap[d]? = some o→B.heap[d]? = some o:=fun d o a c=>C▸r _ 3 k d o a (T d o a c);rw [C] at n;obtain⟨D,E⟩:∃X,World.setCell B ⟨b,4,none⟩ l=X:=⟨_,rfl⟩;have Z:D.heap[b]? = some (.cells #[f,g,j,k,l,u5,u6] 152 (0,0)):=E▸yM (i:=4) U l;have k5:Below b W D:=E▸s _ 4 l V;have q5:∀(d:Nat) (o:Obj),d≠b→W.heap[d]? = some o→D.heap[d]? = some o:=fun d o a c=>E▸r _ 4 l d o a (Y d o a c);rw [E] at n;obtain⟨F,G⟩:∃X,World.setCell D ⟨b,5,none⟩ m=X:=⟨_,rfl⟩;have a5:F.heap[b]? = some (.cells #[f,g,j,k,l,m,u6] 152 (0,0)):=G▸yM (i:=5) Z m;have k6:Below b W F:=G▸s _ 5 m k5;have q6:∀(d:Nat) (o:Obj),d≠b→W.heap[d]? = some o→F.heap[d]? = some o:=fun d o a c=>G▸r _ 5 m d o a (q5 d o a c);rw [G] at n;obtain⟨I,H⟩:∃X,World.setCell F ⟨b,6,none⟩ q=X:=⟨_,rfl⟩;have a6:I.heap[b]? = some (.cells #[f,g,j,k,l,m,q] 152 (0,0)):=H▸yM (i:=6) a5 q;have k7:Below b W I:=H▸s _ 6 q k6;have q7:∀(d:Nat) (o:Obj),d≠b→W.heap[d]? = some o→I.heap[d]? = some o:=fun d o a c=>H▸r _ 6 q d o a (q6 d o a c);rw [H] at n;subst n;exact⟨a6,k7,q7⟩
theorem yMg {ops:Array Oper} {l:Oper} {a:Act} {w:World} {Q:Exit→Act→World→Prop} (p:l.guard=none) (x y:Operand) (q:l.op=.store 152 x y) (C:Nat) {u0 u1 u2 u3 u4 u5 u6 b c e f g i k:Value}
 (r:a.eval x=.pointer (some ⟨C,0,none⟩)) (s:a.eval y=.agg #[b,c,e,f,g,i,k]) (m:w.heap[C]? = some (.cells #[u0,u1,u2,u3,u4,u5,u6] 152 (0,0))) (t:(#[b,c,e,f,g,i,k]:Array Value).all (·.oneCell')=true)
 (h:∀X,X.heap[C]? = some (.cells #[b,c,e,f,g,i,k] 152 (0,0))→Below C w X→(∀(d:Nat) (o:Obj),d≠C→w.heap[d]? = some o→X.heap[d]? = some o)→Q .normal (a.put l.dst undef) X):wpList Tryz.prog ops Q [l] a w:=by
 refine wpList_store_mid p 152 x y q C 0 #[b,c,e,f,g,i,k] r s ?_ (by kernel_rfl) t ?_
 ·intro j n;have n:j<7:=n;have:j=0∨j=1∨j=2∨j=3∨j=4∨j=5∨j=6:=(by omega);rcases this with rfl | rfl | rfl | rfl | rfl | rfl | rfl <;> exact⟨by simp [World.cell?,m],by simp [World.frozen?,m]⟩
 ·obtain⟨u,v,z⟩:=one_set m b c e f g i k _ rfl;exact h _ u v z
theorem yRf (T:ByteArray) (hs:T.size≤65536) (wd H s:Int) (I z t:Bool) (L:List OneR) (hL:pageI T wd H s I t=L) (hn:L.length≤1000000) (hR:∀x∈L,yBl T x) (c cw:Int) (d5:Bool) (i j:Nat) (x:OneR) (hx:L[i]? = some x)
 (hp:yEo T H s I z t L c d5=((i:Int),(j:Int))) (n3:0≤yBv (ctI T c) L 0 (-1)) (g:St) (d6:(stK H s I z t x)[j]? = some g) (m:Nat) (n:Int) (hm:(i:Int)+n=m) (y:OneR) (hy:L[m]? = some y)
 (wv:Int) (b4:(if cw<0 then g.x else cw)=wv) (fs:St) (a9:(if n=0 then g else yK9 H s I z t y wv)=fs) (w:World) (hT:T8 w) (A:DB w) :
 Calls Tryz.prog 37 #[T,wd,.agg #[H,I,.int .i8 s,z,t],.agg #[c,d5,cw],n] w fun e w'=>e=.returned (.agg #[fs.a,fs.back,wv])∧Below w w w':=by
 have f4:=hR x (zS hx);have g8:=hR y (zS hy);have b5:=lh (fun (W:World) (h:Below w w W)=>(⟨hT.below rfl h,A.below h⟩:T8 W∧DB W));have j7:=lh (fun (W:World) (h:Below w w W)=>hL▸yIl T hs wd H s I z t (hL▸hn) W (b5.out W h).1 (b5.out W h).2);have j8:=lh (fun (base Pb:Nat) (W:World) (hP:yE9 W base Pb T H s I z t L) (h:Below w w W)=>(yFc T hs H s I z t L (by omega) hR c cw d5 base Pb W hP (b5.out W h).1 (b5.out W h).2).mono (fun e w' h=>(by rw [Zf (by omega),hp] at h;exact h:e=.returned (.tuple #[i,j,true])∧Below W W w')));have g9:=lh (fun (base Pb:Nat) (W:World) (hP:yE9 W base Pb T H s I z t L) (h:Below w w W)=>yG9 T hs H s I z t L (by omega) i x hx f4 base Pb W hP (b5.out W h).1 (b5.out W h).2);have n4:=yA6 f4;have n5:=yA6 g8;have h3:=zS d6;have f5:=yFs H s I z t h3;have n6:g.a≤T.size:=by
  obtain⟨k1,n7⟩:=((yB3 T H s I z t x f4).1 _ h3).2.2.1;exact n7.1
 have h4:=lh (fun (W:World) (h:Below w w W)=>(Place_any x.line (by omega) x.r.a x.r.len x.r.level x.r.wide x.r.fin H s I z t ((g.a:Int)-x.at') (-1) g.back W (b5.out W h).1 (b5.out W h).2 (yK3 x.line s z t x.r.a x.r.len)).mono (fun e w' h=>(by unfold yLy at f5;rw [f5.1] at h;exact h:e=.returned (.int .i64 g.x)∧Below W W w')));obtain⟨_,_,_,_,_,_,_,_,_,_,_,_,_,_,_,_,_,g1,g2,g3,g4⟩:=yA3 y.line (by omega) H s I z t y.r.a y.r.len y.r.wide y.r.fin;have h5:=lh (fun (W:World) (h:Below w w W)=>Hit_any y.line (by omega) y.r.a y.r.len y.r.level y.r.wide y.r.fin H s wv I z t W (b5.out W h).1 (b5.out W h).2 (yK3 y.line s z t y.r.a y.r.len) g1 g2 g3 g4);unfold yDq yEq at h4 h5;have f6:=(hitS_facts g8 H s I z t wv).1;unfold yK9 at f6 a9;obtain⟨V,j9⟩:∃h,yHo (layI y.line H s I z t y.r.a y.r.len y.r.wide) y.r.fin wv=h:=⟨_,rfl⟩;rw [j9] at h5 f6 a9;dsimp only at f6;obtain⟨Q,hQ⟩:=nm (stK H s I z t x);have k0:Q.length≤16777216:=by
  obtain⟨Q',n0,nc,pf,hf,eQ,en,ec,q7,q8,f1,f2,f3,_⟩:=yA3 x.line (by omega) H s I z t x.r.a x.r.len x.r.wide x.r.fin;have h:=Zb List.length hQ;rw [yIe,zK,eQ] at h;omega
 obtain⟨q,hq⟩:=nm (Q.length);rw [hQ,hq] at g9;rw [hQ] at d6;rw [hq] at k0;have h6:=lh hq;have k2:=(zG.1 d6).1;rw [hq] at k2;have n8:(j:Int)<(q:Int):=by omega
 have h7:=lh d6;have HX:=lh hx;have HY:=lh hy;have n9:=(zG.1 hx).1;have o0:=(zG.1 hy).1;obtain⟨N,hN⟩:∃n,L.length=n:=⟨_,rfl⟩;have HN:=lh hN;rw [hN] at n9 o0 hn;have f7:=lh b4;have k3:=lh a9;have o1:=lh f5.2;obtain⟨h0,h1,h2,k4,k5⟩:=yCi w (.cells #[H,I,.int .i8 s,z,t] 26) (.cells #[c,d5,cw] 33) (.cells #[.int .i64 0,false,.int .i64 0] 33);have q9:x.at'≤65536∧g.a≤65536∧V.a+y.at'≤65536:=⟨by omega,by omega,by omega⟩;clear hT A hR hp n3 f4 g8 hx hy hL hN d6 hQ hq h3 f5 n6 n4 n5 g1 g2 g3 g4 f6 j9 b4 a9;go_enter Tryz.func37,Tryz.ntmps37;go_upto_region 1 with fail;generalize ((w.alloc _).alloc _).alloc _=W1 at h0 h1 h2 k4 k5 ⊢;obtain⟨B,hB⟩:=nm (w.heap.size);have h8:=lh k4;rw [hB] at h0 h1 h2 k5
 try rw [hB]
 obtain⟨a0,a1,a2,a3,a4⟩:=qc5 h0;have H0:=lh h0;have H1:=lh h1;have H2:=lh h2;have HL:=lh (j7.out W1 h8.out);clear h0 h1 h2;go_upto_region 2 with (go_at_call 69;refine HL.out.mono ?_;rintro e w2 ⟨Pb,rfl,r0,f8,c8⟩);have h9:=lh (h8.out.trans (c8.mono h8.out.size));have r1:=c8.size;have k1:=(c8.block (B+1) (by omega)).trans H1.out;have K0:=lh ((c8.block B (by omega)).trans H0.out);have K1:=lh k1;have K2:=lh ((c8.block (B+2) (by omega)).trans H2.out);obtain⟨b0,b1,b2⟩:=qc3 k1;have k6:=lh (j8.out _ Pb w2 f8 h9.out);have k7:=lh f8;have r2:=f8.lt;clear a0 a1 a2 a3 a4 k1 H0 H1 H2 j7 HL c8 f8;go_upto_region 5 with (go_at_call 71;refine k6.out.mono ?_;rintro e Y ⟨rfl,b8⟩);have c9:=lh (h9.out.trans (b8.mono h9.out.size));have r3:=b8.size;have f9:=lh (k7.out.below b8);have k8:=lh ((b8.block B (by omega)).trans K0.out);have k9:=lh ((b8.block (B+1) (by omega)).trans K1.out);have l1:=lh ((b8.block (B+2) (by omega)).trans K2.out);have i0:=lh (g9.out W1.heap.size Pb);clear b8 k6 j8 k7 b0 b1 b2 K0 K1 K2 g9;go_cut [15,16] from 37 to 44 (fun o2 i1 Z=>i1=.int .i64 cw∧∃E,o2=.pointer (some ⟨E,0,none⟩)∧Y.heap.size≤E∧Z.heap[E]? = some (.cells #[g.a,g.back,.int .i64 (-1)] 33 (0,0))∧Below Y Y Z)
 case first=>as_aux_lemma =>
  obtain⟨S,d7,b9⟩:∃S:World→Prop,(∀W,S W→Below Y Y W)∧(∀W,Below Y Y W→S W):=⟨fun W=>Below Y Y W,fun _ h=>h,fun _ h=>h⟩;have a2:∀p:WIn S,p.w.cell? ⟨B+1,2,none⟩=some (.int .i64 cw):=fun p=>yB (d7 _ p.h) (by omega) (ce k9.out);have l:=lh b9;have o3:Nonempty (WIn S):=⟨⟨Y,b9 _ (Zc _ _)⟩⟩;clear d7 b9;refine yn S (by kernel_rfl) ?_;have J:Below Y Y Y.drew:=(Zc _ _).drew;generalize Y.drew=X0 at J ⊢;refine yHi [0,1,3,6,7] [2,8] (fuel:=5) yC (by kernel_rfl) (l.out _ J) ?_;simp only [yS,zD,zE,zC,zB,zA];show wpQuiet _ _ _ _ [_,_,_,_,_] _
  repeat (go_big_quiet_step (fail))
  refine Zt ?_;intro k hk;rcases zX.1 hk with rfl | hk
  ·intro K P;have d:=lh P;clear P;simp only [zD,zE,zC,zB,zA];show wpList _ _ _ [_] _ _;have i2:=lh (i0.out X0 (f9.out.below J) (c9.out.trans (J.mono c9.out.size)));go_wp2_with (go_at_call 73;refine i2.out.mono ?_;rintro e w4 ⟨qa,qc,rfl,hO,a7⟩);have X:=J.trans (a7.mono J.size);refine d.out _ _ (l.out _ X) ?_;clear d;obtain⟨G,eG,sa,sb,sc⟩:=yGc h6.out hO j g h7.out;subst eG;have o4:=yD sa;refine yHi [4] [5,8] (fuel:=3) yC (by kernel_rfl) (l.out _ X) ?_;simp only [yS,zD,zE,zC,zB,zA];show wpQuiet _ _ _ _ [_] _
   repeat (go_big_quiet_step (fail))
   refine Zt ?_;intro k hk;rcases zX.1 hk with rfl | hk
   case' inr =>
    obtain rfl:=zO.1 hk;intro K P;have d:=lh P;clear P;simp only [zD,zE,zC,zB,zA];show wpList _ _ _ [_] _ _;go_wp2;have f:=qal w4 (.cells #[.int .i64 0,false,.int .i64 0] 33);have M:=zL w4 (.cells #[.int .i64 0,false,.int .i64 0] 33);have o:=X.trans (f.mono X.size);refine d.out _ _ (l.out _ o) ?_;clear d;have d8:=X.size;obtain⟨D,A⟩:=nm (w4.heap.size);generalize w4.alloc _=w6 at f M o ⊢;have R:=(zH.1 M).1;rw [A] at M d8 R
    try rw [A]
    replace sa:=yB f (by omega) sa;replace sb:=yB f (by omega) sb;replace sc:=yB f (by omega) sc;refine yj 5 (fuel:=2) yC (by kernel_rfl) (l.out _ o) fun K d=>?_;go_wp2;refine d.out _ _ (l.out _ o) ?_;clear d
   case' inl =>
    intro K P;have d:=lh P;clear P;simp only [zD,zE,zC,zB,zA];show wpList _ _ _ [_] _ _;go_wp2;refine d.out _ _ (l.out _ X) ?_;clear d;refine yj 8 (fuel:=2) yC (by kernel_rfl) (l.out _ X) fun K d=>?_;go_wp2;have f:=qal w4 (.cells #[.int .i64 0,false,.int .i64 0] 33);have M:=zL w4 (.cells #[.int .i64 0,false,.int .i64 0] 33);have o:=X.trans (f.mono X.size);refine d.out _ _ (l.out _ o) ?_;clear d;have d8:=X.size;obtain⟨D,A⟩:=nm (w4.heap.size);generalize w4.alloc _=w6 at f M o ⊢;have R:=(zH.1 M).1;rw [A] at M d8 R
    try rw [A]
   all_goals
    obtain⟨e0,e1,e2⟩:=qc3 M;have f0:w6.frozen? ⟨D,0,none⟩=false:=fz M;have f1:w6.frozen? ⟨D,1,none⟩=false:=fz M;have f2:w6.frozen? ⟨D,2,none⟩=false:=fz M;refine yj 9 (fuel:=1) yC (by kernel_rfl) (l.out _ o) fun K d=>?_;go_wp2;obtain⟨hg,b3⟩:=yT M (.int .i64 g.a) (.bool g.back) (.int .i64 (-1));have a5:=o.trans (b3.mono (by omega));refine d.out _ _ (l.out _ a5) ?_;clear d;have HG:=lh hg;have i3:=lh a5;refine yAi [10] yC (by kernel_rfl) (l.out _ a5) ?_;simp only [yS,zD,zE,zC,zB,zA];show wpQuiet _ _ _ _ [_] _
    repeat (go_big_quiet_step (fail))
    refine Zt ?_;simp only [NoPanic];clear hg b3 a5 J e0 e1 e2 f0 f1 f2 M f a7 hO sa sb sc;go_wp2;go_meet
    case rel=>exact⟨rfl,D,rfl,by omega,HG.out,i3.out⟩
  ·obtain rfl:=zO.1 hk;intro K P;have d:=lh P;clear P;simp only [zD,zE,zC,zB,zA];show wpList _ _ _ [_] _ _;go_wp2;have f:=qal X0 (.cells #[.int .i64 0,false,.int .i64 0] 33);have M:=zL X0 (.cells #[.int .i64 0,false,.int .i64 0] 33);have o:=J.trans (f.mono J.size);refine d.out _ _ (l.out _ o) ?_;clear d;have d8:=J.size;obtain⟨D,A⟩:=nm (X0.heap.size);generalize X0.alloc _=w6 at f M o ⊢;have R:=(zH.1 M).1;rw [A] at M d8 R
   try rw [A]
   refine yj 2 (fuel:=4) yC (by kernel_rfl) (l.out _ o) fun K d=>?_;have i2:=lh (i0.out w6 (f9.out.below o) (c9.out.trans (o.mono c9.out.size)));go_wp2_with (go_at_call 73;refine i2.out.mono ?_;rintro e w4 ⟨qa,qc,rfl,hO,a7⟩);have X:=o.trans (a7.mono o.size);refine d.out _ _ (l.out _ X) ?_;clear d;obtain⟨G,eG,sa,sb,sc⟩:=yGc h6.out hO j g h7.out;subst eG;have o4:=yD sa;have d9:=(a7.block D R).trans M;refine yAq [4] 5 [_] (fuel:=2) yC (by kernel_rfl) (l.out _ X) ?_
   repeat (go_big_quiet_step (fail))
   refine Zt ?_;intro K d;go_wp2;refine d.out _ _ (l.out _ X) ?_;clear d;obtain⟨e0,e1,e2⟩:=qc3 d9;have f0:w4.frozen? ⟨D,0,none⟩=false:=fz d9;have f1:w4.frozen? ⟨D,1,none⟩=false:=fz d9;have f2:w4.frozen? ⟨D,2,none⟩=false:=fz d9;refine yj 9 (fuel:=1) yC (by kernel_rfl) (l.out _ X) fun K d=>?_;go_wp2;obtain⟨hg,b3⟩:=yT d9 (.int .i64 g.a) (.bool g.back) (.int .i64 (-1));have a5:=X.trans (b3.mono (by omega));refine d.out _ _ (l.out _ a5) ?_;clear d;have HG:=lh hg;have i3:=lh a5;refine yAi [10] yC (by kernel_rfl) (l.out _ a5) ?_;simp only [yS,zD,zE,zC,zB,zA];show wpQuiet _ _ _ _ [_] _
   repeat (go_big_quiet_step (fail))
   refine Zt ?_;simp only [NoPanic];clear hg b3 a5 J e0 e1 e2 f0 f1 f2 M f a7 hO sa sb sc;go_wp2;go_meet
   case rel=>exact⟨rfl,D,rfl,by omega,HG.out,i3.out⟩
 case rest =>
  obtain⟨F,o5⟩:∃W,W=wc:=⟨_,rfl⟩;subst o5;obtain⟨rfl,E,rfl,r4,hE,a7⟩:=hcut;have r6:=a7.size;have e3:=(zH.1 hE).1;have e4:=lh (c9.out.trans (a7.mono c9.out.size));have i4:=lh (f9.out.below a7);have i5:=lh ((a7.block B (by omega)).trans k8.out);have l2:=lh ((a7.block (B+2) (by omega)).trans l1.out);have HE:=lh hE;clear f9 k8 k9 l1 i0 h7 h6 k2 n8 k0 hE a7;obtain⟨bw,l3⟩:∃b,decide (cw<0)=b:=⟨_,rfl⟩;go_upto_if 46 with fail;go_cut [16,17,18] from 47 to 67 (fun i1 _ _ Z=>i1=.int .i64 wv∧Below F F Z)
  case first=>as_aux_lemma =>
   cases bw with
   | true =>
     have i6:cw<0:=JZ l3;obtain⟨pa,cap,⟨_,_,_,_,_,_,p6⟩,d1⟩:=i4.out.cells;obtain⟨G,eG,x0,x1,x2,x3,x4,x5,x6⟩:=d1 i x HX.out;subst eG;rw [HN.out] at p6;have r7:(i:Int)<(N:Int):=(by omega);have c5:=yD x0;have r8:=lh e3;go_upto_region 7 with fail;go_cut [17,18] from 47 to 54 (fun o6 o7 Z=>∃C D,o6=.pointer (some ⟨C,0,none⟩)∧o7=.pointer (some ⟨D,0,none⟩)∧C≠D∧F.heap.size≤C∧F.heap.size≤D∧Z.heap[C]? = some (.cells #[x.r.a,x.r.len,.int .u8 x.r.level,x.r.wide,.int .i8 x.r.fin,x.at',x.line] 152 (0,0))∧Z.heap[D]? = some (.cells #[g.a,g.back,.int .i64 (-1)] 33 (0,0))∧Below F F Z)
     case first=>as_aux_lemma =>
      obtain⟨S,d7,b9⟩:∃S:World→Prop,(∀W,S W→Below F F W)∧(∀W,Below F F W→S W):=⟨fun W=>Below F F W,fun _ h=>h,fun _ h=>h⟩;have kx:∀(b i:Nat) (v:Value),b<F.heap.size→F.cell? ⟨b,i,none⟩=some v→∀p:WIn S,p.w.cell? ⟨b,i,none⟩=some v:=fun b i v hb h p=>yB (d7 _ p.h) (by omega) h;have y0:=kx G _ _ c5 x0;have y1:=kx G _ _ c5 x1;have y2:=kx G _ _ c5 x2;have y3:=kx G _ _ c5 x3;have y4:=kx G _ _ c5 x4;have y5:=kx G _ _ c5 x5;have y6:=kx G _ _ c5 x6;have q6:=kx Pb _ _ (by omega) p6;have z0:=kx E 0 (.int .i64 g.a) e3 (ce HE.out);have z1:=kx E 1 (.bool g.back) e3 (ce HE.out);have z2:=kx E 2 (.int .i64 (-1)) e3 (ce HE.out);have l:=lh b9;have o3:Nonempty (WIn S):=⟨⟨F,b9 _ (Zc _ _)⟩⟩;clear d7 b9 kx x0 x1 x2 x3 x4 x5 x6 p6 d1;refine yn S (by kernel_rfl) ?_;have J:Below F F F.drew:=(Zc _ _).drew;generalize F.drew=X0 at J ⊢;refine yHi [0,1,2,3,4,5,6,7] [8,9] (fuel:=3) yC (by kernel_rfl) (l.out _ J) ?_;simp only [yS,zD,zE,zC,zB,zA];show wpQuiet _ _ _ _ [_,_,_,_,_,_,_,_] _
      repeat (go_big_quiet_step (fail))
      refine Zt ?_;intro k hk;rcases zX.1 hk with rfl | hk
      case' inr =>
       obtain rfl:=zO.1 hk;intro K P;have d:=lh P;clear P;simp only [zD,zE,zC,zB,zA];show wpList _ _ _ [_] _ _;go_wp2;have O:=qal X0 (.cells #[.int .i64 0,false,.int .i64 0] 33);have e5:=zL X0 (.cells #[.int .i64 0,false,.int .i64 0] 33);have a6:=J.trans (O.mono J.size);refine d.out _ _ (l.out _ a6) ?_;clear d;have i7:=J.size;obtain⟨D,A⟩:=nm (X0.heap.size);generalize X0.alloc _=w5 at O e5 a6 ⊢;rw [A] at e5 i7
       try rw [A]
       have o8:=(zH.1 e5).1;refine yj 8 (fuel:=2) yC (by kernel_rfl) (l.out _ a6) fun K d=>?_;go_wp2;have f:=qal w5 (.cells #[.int .i64 0,.int .i64 0,.int .u8 0,.int .i64 0,.int .i8 0,.int .i64 0,.string { data:=#[] }] 152);have U:=zL w5 (.cells #[.int .i64 0,.int .i64 0,.int .u8 0,.int .i64 0,.int .i8 0,.int .i64 0,.string { data:=#[] }] 152);have o:=a6.trans (f.mono a6.size);refine d.out _ _ (l.out _ o) ?_;clear d;have i9:=a6.size;obtain⟨C,hC⟩:∃D,w5.heap.size=D:=⟨_,rfl⟩;generalize w5.alloc _=w6 at f U o ⊢;rw [hC] at U i9
       try rw [hC]
       have l4:=(zH.1 U).1;have R:=(f.block D (by omega)).trans e5;have b6:C≠D:=(by omega);clear e5
      case' inl =>
       intro K P;have d:=lh P;clear P;simp only [zD,zE,zC,zB,zA];show wpList _ _ _ [_] _ _;go_wp2;have O:=qal X0 (.cells #[.int .i64 0,.int .i64 0,.int .u8 0,.int .i64 0,.int .i8 0,.int .i64 0,.string { data:=#[] }] 152);have e6:=zL X0 (.cells #[.int .i64 0,.int .i64 0,.int .u8 0,.int .i64 0,.int .i8 0,.int .i64 0,.string { data:=#[] }] 152);have a6:=J.trans (O.mono J.size);refine d.out _ _ (l.out _ a6) ?_;clear d;have i7:=J.size;obtain⟨C,hC⟩:∃D,X0.heap.size=D:=⟨_,rfl⟩;generalize X0.alloc _=w5 at O e6 a6 ⊢;rw [hC] at e6 i7
       try rw [hC]
       have l4:=(zH.1 e6).1;refine yj 9 (fuel:=2) yC (by kernel_rfl) (l.out _ a6) fun K d=>?_;go_wp2;have f:=qal w5 (.cells #[.int .i64 0,false,.int .i64 0] 33);have R:=zL w5 (.cells #[.int .i64 0,false,.int .i64 0] 33);have o:=a6.trans (f.mono a6.size);refine d.out _ _ (l.out _ o) ?_;clear d;have i9:=a6.size;obtain⟨D,A⟩:=nm (w5.heap.size);generalize w5.alloc _=w6 at f R o ⊢;rw [A] at R i9
       try rw [A]
       have o8:=(zH.1 R).1;have U:=(f.block C (by omega)).trans e6;have b6:C≠D:=(by omega);clear e6
      all_goals
       refine yj 10 (fuel:=1) yC (by kernel_rfl) (l.out _ o) fun K d=>?_;refine yMg rfl (.tmp 17) (.tmp 53) rfl C rfl rfl U (by simp [Value.oneCell']) ?_;intro w7 e7 a8 l5;have a5:=o.trans (a8.mono (by omega));have d2:=l5 D _ b6.symm R;refine d.out _ _ (l.out _ a5) ?_;clear d;obtain⟨e0,e1,e2⟩:=qc3 d2;have f0:w7.frozen? ⟨D,0,none⟩=false:=fz d2;have f1:w7.frozen? ⟨D,1,none⟩=false:=fz d2;have f2:w7.frozen? ⟨D,2,none⟩=false:=fz d2;refine yj 11 (fuel:=0) yC (by kernel_rfl) (l.out _ a5) fun K d=>?_;go_wp2;obtain⟨hg,b3⟩:=yT d2 (.int .i64 g.a) (.bool g.back) (.int .i64 (-1));have d3:=yCp e7 b6 (.int .i64 g.a) (.bool g.back) (.int .i64 (-1));have g5:=a5.trans (b3.mono (by omega));refine d.out _ _ (l.out _ g5) ?_;clear d;have HG:=lh hg;have o9:=lh d3;have p0:=lh g5;refine yAi [] yC (by kernel_rfl) (l.out _ g5) ?_;simp only [yS,zD,zE,zC,zB,zA];refine Zt ?_;simp only [NoPanic];have j0:=lh b6;clear hg b3 d3 g5 a5 o a6 J e0 e1 e2 f0 f1 f2 e7 a8 l5 d2 U R b6 y0 y1 y2 y3 y4 y5 y6 q6 z0 z1 z2 O f;go_wp2;go_meet
       case rel=>exact⟨C,D,rfl,rfl,j0.out,by omega,by omega,o9.out,HG.out,p0.out⟩
     case rest =>
      obtain⟨W5,j1⟩:∃W,W=wc:=⟨_,rfl⟩;subst j1;obtain⟨C,D,rfl,rfl,b6,r9,s0,hC,A,O⟩:=hcut;have l6:=O.size;have d0:=qc1 A;have df:W5.frozen? ⟨D,0,none⟩=false:=fz A;obtain⟨-,-,-,-,-,r5⟩:=qc6 hC;have s1:IntKind.i64.wrap ((g.a:Int)-(x.at':Int))=(g.a:Int)-(x.at':Int):=(by rw [ZH];omega);have HC:=lh hC;have p1:=lh A;have j0:=lh b6;have e8:=lh O;clear O hC A b6 x0 x1 x2 x3 x4 x5 x6 p6 d1;go_upto_region 9 with fail;have R:(W5.setCell ⟨D,0,none⟩ (.int .i64 ((g.a:Int)-(x.at':Int)))).heap[D]? = some (.cells #[.int .i64 ((g.a:Int)-(x.at':Int)),g.back,.int .i64 (-1)] 33 (0,0)):=yM (i:=0) p1.out _;have f:Below F F (W5.setCell ⟨D,0,none⟩ (.int .i64 ((g.a:Int)-(x.at':Int)))):=e8.out.trans ((Zc _ _).setCell (p:=⟨D,0,none⟩) (by show F.heap.size≤D;omega) _);have U:=((Zu W5 D (.int .i64 ((g.a:Int)-(x.at':Int)))).block C (zH.1 HC.out).1 (fun e=>j0.out (zu e))).trans HC.out;generalize W5.setCell _ _=W6 at R f U ⊢;have l0:=(f.block B (by omega)).trans i5.out;obtain⟨a0,a1,a2,a3,a4⟩:=qc5 l0;obtain⟨g0,g1,g2⟩:=qc3 R;obtain⟨c0,c1,c2,c3,c4,-,c6⟩:=qc7 U;have p2:=lh (h4.out W6 (e4.out.trans (f.mono e4.out.size)));have b7:=lh f;have b4:=f7.out;rw [Zg i6] at b4;have HV:=lh b4;clear d0 df r5 R f U l0 b4;go_wp2_with (go_at_call 15;refine p2.out.mono ?_;rintro e w7 ⟨rfl,a8⟩;have d4:=lh a8;clear a8);go_meet
      case rel=>exact⟨by rw [HV.out],b7.out.trans (d4.out.mono b7.out.size)⟩
   | false =>
     have i6:=of_decide_eq_false l3;have b4:=f7.out;rw [Zf i6] at b4;have HV:=lh b4;clear b4 f7;go_wp2;go_meet
     case rel=>exact⟨by rw [HV.out],Zc _ _⟩
  case rest =>
   obtain⟨W5,j1⟩:∃W,W=wc:=⟨_,rfl⟩;subst j1;obtain⟨rfl,O⟩:=hcut;have l6:=O.size;have e8:=lh (e4.out.trans (O.mono e4.out.size));have p3:=lh (i4.out.below O);have p4:=lh ((O.block B (by omega)).trans i5.out);have l7:=lh ((O.block (B+2) (by omega)).trans l2.out);have l8:=lh ((O.block E e3).trans HE.out);obtain⟨pa,cap,⟨_,_,_,_,_,_,p6⟩,d1⟩:=p3.out.cells;obtain⟨G,eG,x0,x1,x2,x3,x4,x5,x6⟩:=d1 m y HY.out;subst eG;rw [HN.out] at p6;have s2:IntKind.i64.wrap ((N:Int)-1)=(N:Int)-1:=(by rw [ZH];omega);have s3:IntKind.i64.wrap ((N:Int)-1-(i:Int))=(N:Int)-1-(i:Int):=(by rw [ZH];omega);have s4:(m:Int)<(N:Int):=(by omega);clear e4 i4 i5 l2 HE d1 O h4 f7 o1;obtain⟨bn,l9⟩:∃b,decide (n<(N:Int)-1-(i:Int))=b:=⟨_,rfl⟩;go_upto_if 78 with fail;go_cut [19] from 79 to 85 (fun v Z=>v=.int .i64 m∧Z=W5)
   case first=>as_aux_lemma =>
    cases bn with
    | true =>
      have p5:=JZ l9;have s5:IntKind.i64.wrap (-(i:Int)) = -(i:Int):=(by rw [ZH];omega);have s6:max n (-(i:Int))=n:=(by omega);have s7:IntKind.i64.wrap ((i:Int)+n)=(m:Int):=(by rw [ZH];omega);have s8:max 0 (m:Int)=(m:Int):=(by omega);clear x0 x1 x2 x3 x4 x5 x6 p6;go_wp2;go_meet
      case rel=>exact⟨rfl,rfl⟩
    | false =>
      have p5:=of_decide_eq_false l9;have he:(N:Int)-1=(m:Int):=(by omega);have p7:=lh he;clear x0 x1 x2 x3 x4 x5 x6 p6 he;go_wp2;go_meet
      case rel=>exact⟨by rw [p7.out],rfl⟩
   case rest =>
    obtain⟨W6,j2⟩:∃W,W=wc:=⟨_,rfl⟩;subst j2;obtain⟨rfl,m0⟩:=hcut;rw [m0];clear m0;obtain⟨bq,m1⟩:∃b,((m:Int) != (i:Int))=b:=⟨_,rfl⟩;have p8:(m != i)=bq:=by
     rw [←m1];by_cases h:m=i
     ·rw [bne_eq_false_iff_eq.2 h,bne_eq_false_iff_eq.2 (by omega:(m:Int)=i)]
     ·rw [bne_iff_ne.2 h,bne_iff_ne.2 (by omega:(m:Int)≠i)]
    go_upto_if 88 with fail;go_cut [20] from 89 to 108 (fun _ Z=>∃u,Z.heap[E]? = some (.cells #[fs.a,fs.back,u] 33 (0,0))∧Z.heap[B+2]? = some (.cells #[.int .i64 0,false,.int .i64 0] 33 (0,0))∧Below w w Z)
    case first=>as_aux_lemma =>
     cases bq with
     | false =>
       have p9:m=i:=(by have:=bne_eq_false_iff_eq.1 m1;omega);have a9:=k3.out;rw [Zg (by omega:n=0)] at a9;have HF:=lh a9;clear x0 x1 x2 x3 x4 x5 x6 p6 a9;go_wp2;go_meet
       case rel=>exact⟨_,by rw [←HF.out];exact l8.out,l7.out,e8.out⟩
     | true =>
       have p9:m≠i:=bne_iff_ne.1 p8;have a9:=k3.out;rw [Zf (by omega:¬ n=0)] at a9;have HF:=lh a9;clear a9;go_upto_region 15 with fail;have f:=qal W5 (.cells #[y.r.a,y.r.len,.int .u8 y.r.level,y.r.wide,.int .i8 y.r.fin,y.at',y.line] 152);have U:=zL W5 (.cells #[y.r.a,y.r.len,.int .u8 y.r.level,y.r.wide,.int .i8 y.r.fin,y.at',y.line] 152);generalize W5.alloc _=W6 at f U ⊢;obtain⟨C,hC⟩:=nm (W5.heap.size);have l0:=(f.block B (by omega)).trans p4.out;have m2:=lh ((f.block (B+2) (by omega)).trans l7.out);have g6:=lh ((f.block E (by omega)).trans l8.out);have b7:=lh (e8.out.trans (f.mono e8.out.size));rw [hC] at U l6
       try rw [hC]
       obtain⟨a0,a1,a2,a3,a4⟩:=qc5 l0;obtain⟨c0,c1,c2,c3,c4,-,c6⟩:=qc7 U;have m3:=lh (h5.out W6 b7.out);have m4:=lh U;have l4:=(zH.1 U).1;clear x0 x1 x2 x3 x4 x5 x6 p6 l0 U f;go_upto_region 16 with (go_at_call 14;refine m3.out.mono ?_;rintro e w7 ⟨rfl,a8⟩;have d4:=lh a8;have g4:=(a8.block E (by omega)).trans g6.out;have e0:w7.cell? ⟨E,0,none⟩=some (.int .i64 g.a):=(ce g4);have e1:w7.cell? ⟨E,1,none⟩=some (.bool g.back):=(ce g4);have e2:w7.cell? ⟨E,2,none⟩=some (.int .i64 (-1)):=(ce g4);have f0:w7.frozen? ⟨E,0,none⟩=false:=(fz g4);have f1:w7.frozen? ⟨E,1,none⟩=false:=(fz g4);have f2:w7.frozen? ⟨E,2,none⟩=false:=(fz g4);have m5:=lh g4;clear a8 g4);obtain⟨e9,j3⟩:=yT m5.out (.int .i64 V.a) (.bool V.back) (.int .i64 (-1));have e7:=(d4.out.block C (by omega)).trans m4.out;have d3:=yCp e7 (by omega:C≠E) (.int .i64 V.a) (.bool V.back) (.int .i64 (-1));have j4:=yCp ((d4.out.block (B+2) (by omega)).trans m2.out) (by omega:B+2≠E) (.int .i64 V.a) (.bool V.back) (.int .i64 (-1));have j5:=b7.out.trans ((d4.out.mono b7.out.size).trans (j3.mono (by omega)));generalize ((w7.setCell _ _).setCell _ _).setCell _ _=w8 at e9 j3 d3 j4 j5 ⊢;have d0:=qc1 e9;have df:w8.frozen? ⟨E,0,none⟩=false:=fz e9;obtain⟨-,-,-,-,-,r5⟩:=qc6 d3;have s9:IntKind.i64.wrap ((V.a:Int)+(y.at':Int))=(V.a:Int)+(y.at':Int):=(by rw [ZH];omega);have q0:=lh e9;have m6:=lh j4;have q1:=lh j5;clear e9 j3 e7 d3 j4 j5 d4 m5 g6 m2 m4 e0 e1 e2 f0 f1 f2 a0 a1 a2 a3 a4 c0 c1 c2 c3 c4 c6 m3;go_wp2;have m7:(w8.setCell ⟨E,0,none⟩ (.int .i64 ((V.a:Int)+(y.at':Int)))).heap[E]? = some (.cells #[.int .i64 ((V.a:Int)+(y.at':Int)),V.back,.int .i64 (-1)] 33 (0,0)):=yM (i:=0) q0.out _;have m8:=((Zu w8 E (.int .i64 ((V.a:Int)+(y.at':Int)))).block (B+2) (zH.1 m6.out).1 (fun e=>by cases e;omega)).trans m6.out;have m9:=q1.out.trans ((Zc _ _).setCell (p:=⟨E,0,none⟩) (by show w.heap.size≤E;omega) (.int .i64 ((V.a:Int)+(y.at':Int))));have q2:=lh m7;have q3:=lh m8;have q4:=lh m9;clear m7 m8 m9 d0 df r5;go_meet
       case rel=>exact⟨_,by rw [←HF.out];exact q2.out,q3.out,q4.out⟩
    case rest =>
     obtain⟨W6,j2⟩:∃W,W=wc:=⟨_,rfl⟩;subst j2;obtain⟨uu,g7,n1,f⟩:=hcut;obtain⟨-,-,d0⟩:=qc3 g7;have df:W6.frozen? ⟨E,2,none⟩=false:=fz g7;have g6:=lh g7;have n2:=lh n1;have b7:=lh f;clear g7 n1 f x0 x1 x2 x3 x4 x5 x6 p6;go_upto_region 18 with fail;have j6:(W6.setCell ⟨E,2,none⟩ (.int .i64 wv)).heap[E]? = some (.cells #[fs.a,fs.back,wv] 33 (0,0)):=yM (i:=2) g6.out _;have c7:=((yF2 W6 E 2 (.int .i64 wv)).block (B+2) (zH.1 n2.out).1 (fun e=>by cases e;omega)).trans n2.out;have a8:=b7.out.trans ((Zc _ _).setCell (p:=⟨E,2,none⟩) (by show w.heap.size≤E;omega) (.int .i64 wv));generalize W6.setCell _ _=W7 at j6 c7 a8 ⊢;obtain⟨g0,g1,g2⟩:=qc3 j6;obtain⟨e0,e1,e2⟩:=qc3 c7;have f0:W7.frozen? ⟨B+2,0,none⟩=false:=fz c7;have f1:W7.frozen? ⟨B+2,1,none⟩=false:=fz c7;have f2:W7.frozen? ⟨B+2,2,none⟩=false:=fz c7;obtain⟨hg,b3⟩:=yT c7 (.int .i64 fs.a) (.bool fs.back) (.int .i64 wv);have HG:=lh hg;have q5:=lh (a8.trans (b3.mono (by omega)));clear j6 c7 a8 hg b3 d0 df;go_wp2;exact qC (JT (ty:=33) rfl _ _ (B+2) _ _ _ _ rfl HG.out yh rfl yu) rfl ⟨rfl,q5.out⟩
def nxW (at0:Int):List Nat→List Int→Int→Int→Int
 | e::es,k::ks,p,out=>nxW at0 es ks e (if 2≤k then (if at0<p∧p<out then p else out) else out)
 | [],_,_,out=>out
 | _::_,[],_,out=>out
theorem out_ints {w:World} {t base:Nat} {a:Option Addr} {c:Nat} {L:List Int} (h:yG .i64 t w base a c L) (i:Nat) (e:Int) (b:L[i]? = some e):∃G,a=some ⟨G,0,none⟩∧base≤G∧G<w.heap.size∧w.cell? ⟨G,i,none⟩=some (.int .i64 e):=by
 unfold yG at h;obtain⟨o,cap,d,f⟩:=yEe h;cases d;obtain⟨G,g,j,k,p,l,m⟩:=f (by have:=(zG.1 b).1;omega);refine⟨G,g,j,k,?_⟩;have n:=m i (.int .i64 e) (by rw [zm,b];rfl);simp [World.cell?,l,n]
theorem cNx1_any (A O n:Nat) (p a b:Int) (w:World) (q:A≠O) (r:n≤O) (l:Boxed w A 3 (.int .i64 a)) (g:Boxed w O 3 (.int .i64 b)) :
 Calls Tryz.prog 114 #[p,.pointer (some ⟨A,0,none⟩),.pointer (some ⟨O,0,none⟩)] w fun e w'=>(∃v,e=.returned v)∧Boxed w' A 3 (.int .i64 a)∧Boxed w' O 3 (.int .i64 (if a<p∧p<b then p else b))∧Below n w w'∧∀(d:Nat) (o:Obj),d≠O→w.heap[d]? = some o→w'.heap[d]? = some o:=by
 have y:=l.cell;have z:=g.cell;have B:=g.frozen;have j:=lh l;have m:=lh g;clear l g;by_cases c:a<p
 ·have s:decide (p > a)=true:=zQ c;have t:decide (a<p)=true:=zQ c;by_cases k:p<b
  ·have u:decide (p<b)=true:=zQ k;rw [Zg ⟨c,k⟩];go_enter Tryz.func114,Tryz.ntmps114;go_wp2
   go_end0
   exact⟨⟨_,rfl⟩,((Zu w O (.int .i64 p)).block A j.out.lt (fun e=>q (zu e))).trans j.out,yM (i:=0) m.out _,(Zc _ _).setCell (p:=⟨O,0,none⟩) r _,
    fun d o x f=>((Zu w O (.int .i64 p)).block d (zH.1 f).1 (fun e=>x (zu e))).trans f⟩
  ·have u:decide (p<b)=false:=zP k;rw [Zf (fun h=>k h.2)];go_enter Tryz.func114,Tryz.ntmps114;go_wp2
   go_end0
   exact⟨⟨_,rfl⟩,j.out,m.out,Zc _ _,fun d o _ f=>f⟩
 ·have s:decide (p > a)=false:=zP c;have t:decide (a<p)=false:=zP c;rw [Zf (fun h=>c h.1)];go_enter Tryz.func114,Tryz.ntmps114;go_wp2
  go_end0
  exact⟨⟨_,rfl⟩,j.out,m.out,Zc _ _,fun d o _ f=>f⟩
theorem cbegins_next (s:ByteArray) (hs:s.size≤2097152) (A O n:Nat) (f x:Int) (a4:A≠O) (c0:n≤A) (a5:n≤O) (w:World) (hn:n≤w.heap.size) (P:T8 w) (Q:Boxed w A 3 (.int .i64 f)) (R:Boxed w O 3 (.int .i64 x)) :
 Calls Tryz.prog 113 #[s,.func (.func 114) #[] #[.pointer (some ⟨A,0,none⟩),.pointer (some ⟨O,0,none⟩)]] w fun e w'=>(∃v,e=.returned v)∧Boxed w' O 3 (.int .i64 (nxW f (yBt s) (yBy s) 0 x))∧Below n w w':=by
 have y:=lh (segs2_any s w P hs);have j:(yBy s).length=(yBt s).length:=by unfold yBy yBt;rw [zK,zK]
 have S:=wends_len s;obtain⟨V,l⟩:=nm (nxW f (yBt s) (yBy s) 0 x);rw [l];obtain⟨z,T⟩:=nm (yBt s);obtain⟨ks,U⟩:=nm (yBy s);rw [T] at y j l S;rw [U] at y j l;obtain⟨m,K⟩:=nm (z.length);rw [K] at y j S;have W:=lh K;have a6:=lh j;have a7:=lh l;have L:=lh Q;have M:=lh R;clear P Q R T U K j l;refine (qG (n:=4)).1 ?_;refine callsIn_of_wp Tryz.func113 rfl trivial ?_ rfl;simp only [Tryz.ntmps113,qW,zb,zn,Nat.reduceAdd,Nat.reduceSub,qX,qY,qZ,qd,zp,zo];gi_wp2;refine⟨trivial,?_⟩;refine (qG.2 y.out).mono ?_;rintro e' B ⟨a,c,a2,c2,rfl,X,Y,C⟩;have H1:=lh (fun (i:Nat) (e:Nat) (q:z[i]? = some e)=>out_ints X i (e:Int) (by rw [zm,q];rfl));have H2:=lh (fun (i:Nat) (k:Int) (r:ks[i]? = some k)=>out_ints Y i k r);have a8:=lh ((C.block A L.out.lt).trans L.out);have a9:=lh ((C.block O M.out.lt).trans M.out);have c1:=L.out.lt;have c3:=M.out.lt;have b0:=lh (C.mono hn);clear X Y C;gi_wp2;gi_loopw [6,7,8,16] (fun u6 _ _ u16 wr=>∃(i:Nat) (p:Nat) (t:Int),u16=.int .i64 i∧u6=.int .i64 p∧i≤m∧V=nxW f (z.drop i) (ks.drop i) p t∧Boxed wr A 3 (.int .i64 f)∧Boxed wr O 3 (.int .i64 t)∧Below n B wr∧∀(d:Nat) (o:Obj),w.heap.size≤d→B.heap[d]? = some o→wr.heap[d]? = some o)
  (fun _ _ _ u16 _=>m-(intOf u16).toNat)
 case atStart=>exact⟨0,0,x,rfl,rfl,zd _,by rw [ZZ,ZZ];exact a7.out.symm,a8.out,a9.out,Zc _ _,fun d o _ b=>b⟩
 case round =>
  obtain⟨i,p,t,rfl,rfl,c4,h,N,D,E,u⟩:=hrel;by_cases c5:i<m
  ·obtain⟨e,q⟩:∃e,z[i]? = some e:=⟨_,zF (by have:=W.out;omega)⟩;obtain⟨k,r⟩:∃k,ks[i]? = some k:=⟨_,zF (by have:=a6.out;omega)⟩;obtain⟨G,eG,b1,b2,Z⟩:=H1.out i e q;obtain⟨J,eJ,b3,b4,a0⟩:=H2.out i k r;have cG:wr.cell? ⟨G,i,none⟩=some (.int .i64 e):=by
    obtain⟨o,b⟩:∃o,B.heap[G]? = some o:=⟨_,qs b2⟩;have:=u G o b1 b;rw [←Z];exact yBb (this.trans b.symm)
   have cJ:wr.cell? ⟨J,i,none⟩=some (.int .i64 k):=by
    obtain⟨o,b⟩:∃o,B.heap[J]? = some o:=⟨_,qs b4⟩;have:=u J o b3 b;rw [←a0];exact yBb (this.trans b.symm)
   subst eG eJ;rw [yAu q,yAu r,nxW] at h;have F:=lh h;have a1:=lh N;have H:=lh D;have I:=lh E;have a3:=lh u;have c6:(i:Int)<(m:Int):=(by omega);have c7:IntKind.i64.wrap ((i:Int)+1)=(i:Int)+1:=(by rw [ZH];omega);clear h N D E u Z a0 q r;by_cases g:2≤k
   ·have d2:decide (k ≥ 2)=true:=zQ g;have b5:decide (2≤k)=true:=zQ g;gi_wp2;refine⟨trivial,?_⟩;refine (qG.2 (cNx1_any A O n p f t wr a4 a5 a1.out H.out)).mono ?_;rintro e' W2 ⟨⟨v,rfl⟩,b6,b7,b8,b9⟩;gi_wp2;go_roundw
    case rel=>exact⟨i+1,e,_,by go_num,rfl,by omega,by rw [F.out,Zg g],b6,b7,I.out.trans b8,fun d o hd b=>b9 d o (by omega) (a3.out d o hd b)⟩
    case measure=>simp [intOf];omega
   ·have d2:decide (k ≥ 2)=false:=zP g;have b5:decide (2≤k)=false:=zP g;gi_wp2;go_roundw
    case rel=>exact⟨i+1,e,t,by go_num,rfl,by omega,by rw [F.out,Zf g],a1.out,H.out,I.out,a3.out⟩
    case measure=>simp [intOf];omega
  ·obtain rfl:i=m:=(by omega);rw [ql (by have:=W.out;omega),nxW] at h;have F:=lh h;have H:=lh D;have I:=lh (b0.out.trans E);clear h N D E u;gi_wp2
   go_end0
   exact⟨⟨_,rfl⟩,by rw [F.out];exact H.out,I.out⟩
theorem cwNext_any (s:ByteArray) (y:s.size≤2097152) (a:Int) (w:World) (o:T8 w) :
 Calls Tryz.prog 75 #[s,a] w fun e w'=>e=.returned (.int .i64 (nxW (max a 0) (yBt s) (yBy s) 0 s.size))∧Below w w w':=by
 have I:∀(q:Fn) (first cap:Array Value) (w:World),(Instr.makeFunc q first cap).run Tryz.prog w=.ok (.func q first cap) w:=fun _ _ _ _=>rfl;obtain⟨b,z⟩:=nm (max a 0);rw [z];have r:=qal w (.cells #[a] 3);have c:=Boxed.new w 3 (.int .i64 a);have g:=zM w (.cells #[a] 3);have A:=lh (fun (W:World) (h:Below w w W)=>o.below rfl h);clear o;go_enter Tryz.func75,Tryz.ntmps75;go_upto_region 1 with fail;generalize w.alloc _=W1 at r c g ⊢;obtain⟨B,k⟩:=nm (w.heap.size);have C:=lh r;rw [k] at c g
 try rw [k]
 have D:=c.cell;have E:=c.frozen;go_upto_region 2 with fail;have l:Boxed (W1.setCell ⟨B,0,none⟩ (.int .i64 b)) B 3 (.int .i64 b):=yM (i:=0) c _;have m:=C.out.trans ((Zc _ _).setCell (p:=⟨B,0,none⟩) (by show w.heap.size≤B;omega) (.int .i64 b));have d:(W1.setCell ⟨B,0,none⟩ (.int .i64 b)).heap.size=B+1:=by rw [World.size_setCell];exact g
 generalize W1.setCell _ _=W2 at l m d ⊢;clear D E;have F:=lh d;clear d g;go_upto_region 3 with fail;have j:=Boxed.new W2 3 (.int .i64 s.size);have f:=qal W2 (.cells #[s.size] 3);have d:=F.out;have n:=(f.block B (by omega)).trans l;generalize W2.alloc _=W3 at j f n ⊢;have J:=f.size;rw [d] at j
 try rw [d]
 have t:=lh (m.trans (f.mono (by omega)));have G:=lh (cbegins_next s y B (B+1) B b s.size (by omega) (zT _) (by omega) W3 (by omega) (A.out W3 t.out) n j);clear l m f n j c;go_wp2_with (go_at_call 113;refine G.out.mono ?_;rintro e K ⟨⟨v,rfl⟩,u,x⟩;have L:=u.cell;have H:=lh (t.out.trans (k.symm▸x));clear x u);go_ret;exact⟨rfl,H.out⟩
def wnF (T:ByteArray):Nat→Int→Int
 | 0,a=>a
 | k+1,a=>if a=T.size then a else wnF T k (nxW (max a 0) (yBt T) (yBy T) 0 T.size)
theorem cWstep_any (T:ByteArray) (y:T.size≤2097152) (X C n:Nat) (a:Int) (m:Bool) (q:Int) (w:World) (r:T8 w) (z:X≠C) (A:n≤C) (B:n≤w.heap.size) (h:Boxed w X 9 (.string T)) (f:w.heap[C]? = some (.cells #[a,m,q] 33 (0,0))) :
 Calls Tryz.prog 74 #[.pointer (some ⟨X,0,none⟩),.pointer (some ⟨C,0,none⟩)] w fun e w'=>(∃v,e=.returned v)∧w'.heap[C]? = some (.cells #[.int .i64 (nxW (max a 0) (yBt T) (yBy T) 0 T.size),m,q] 33 (0,0))∧Boxed w' X 9 (.string T)∧Below n w w'∧∀(d:Nat) (o:Obj),d≠C→w.heap[d]? = some o→w'.heap[d]? = some o:=by
 have s:=lh (cwNext_any T y a w r);obtain⟨V,t⟩:=nm (nxW (max a 0) (yBt T) (yBy T) 0 T.size);rw [t] at s ⊢;have G:=h.cell;have H:=qc1 f;have u:=lh h;have D:=lh f;have E:=(zH.1 f).1;clear t r h f;go_enter Tryz.func74,Tryz.ntmps74;go_wp2_with (go_at_call 75;refine s.out.mono ?_;rintro e b ⟨rfl,j⟩;have k:=lh j;have g:=(j.block C E).trans D.out;have F:=lh g;have I:b.cell? ⟨C,0,none⟩=some (.int .i64 a):=(ce g);have J:b.frozen? ⟨C,0,none⟩=false:=(fz g);clear j g)
 go_end0
 have x:∀(d:Nat) (o:Obj),d≠C→b.heap[d]? = some o→(b.setCell ⟨C,0,none⟩ (.int .i64 V)).heap[d]? = some o:=fun d o l c=>((Zu b C (.int .i64 V)).block d (zH.1 c).1 (fun e=>l (zu e))).trans c;exact⟨⟨_,rfl⟩,yM (i:=0) F.out _,x X _ z ((k.out.block X u.out.lt).trans u.out),(k.out.mono B).trans ((Zc _ _).setCell (p:=⟨C,0,none⟩) A _),fun d o l c=>x d o l ((k.out.block d (zH.1 c).1).trans c)⟩
theorem yMu (T:ByteArray) (X:T.size≤2097152) (c q:Int) (r:Bool) (n:Nat) (hn:n≤4611686018427387904) (w:World) (x:T8 w) :
 Calls Tryz.prog 38 #[T,.agg #[c,r,q],n] w fun e w'=>e=.returned (.agg #[.int .i64 (wnF T n (ctI T c)),false,.int .i64 (-1)])∧Below w w w':=by
 have b8:∀(Y:Fn) (first cap:Array Value) (w:World),(Instr.makeFunc Y first cap).run Tryz.prog w=.ok (.func Y first cap) w:=fun _ _ _ _=>rfl;have HT:=lh (fun (W:World) (h:Below w w W)=>x.below rfl h);have Z:=lh (fun (W:World) (h:Below w w W)=>yEc T X c q r W (x.below rfl h));obtain⟨f,a1⟩:∃a,ctI T c=a:=⟨_,rfl⟩;rw [a1] at Z ⊢;obtain⟨V,y⟩:=nm (wnF T n f);rw [y];have HV:=lh y;obtain⟨h0,l,s,z,a2⟩:=yCi w (.cells #[T] 9) (.cells #[c,r,q] 33) (.cells #[.int .i64 0,false,.int .i64 0] 33);have b9:decide ((n:Int)<0)=false:=zP (by omega);clear x a1 y;refine (qG (n:=4)).1 ?_;refine callsIn_of_wp Tryz.func38 rfl trivial ?_ rfl;simp only [Tryz.ntmps38,qW,zb,zn,Nat.reduceAdd,Nat.reduceSub,qX,qY,qZ,qd,zp,zo];gi_upto_region 1 with fail;generalize ((w.alloc _).alloc _).alloc _=W1 at h0 l s z a2 ⊢;obtain⟨B,A⟩:=nm (w.heap.size);have C:=lh z;rw [A] at h0 l s a2
 try rw [A]
 have a3:=qc1 h0;obtain⟨b0,b1,b2⟩:=qc3 l;have H0:=lh h0;have H1:=lh l;have H2:=lh s;clear h0 l s z;gi_wp2;refine⟨trivial,?_⟩;refine (qG.2 (Z.out W1 C.out)).mono ?_;rintro e' t ⟨rfl,i⟩;have k0:=(i.block B (by omega)).trans H0.out;have j:=(i.block (B+1) (by omega)).trans H1.out;have k2:=(i.block (B+2) (by omega)).trans H2.out;have c4:=i.size;have a4:=lh (C.out.trans (i.mono C.out.size));obtain⟨D,E,F⟩:=qc3 j;have G:t.frozen? ⟨B+1,0,none⟩=false:=fz j;have H:t.frozen? ⟨B+1,1,none⟩=false:=fz j;have I:t.frozen? ⟨B+1,2,none⟩=false:=fz j;have K0:=lh k0;have K1:=lh j;have K2:=lh k2;clear a3 b0 b1 b2 k0 j k2 i H0 H1 H2;gi_upto_region 2 with fail;obtain⟨J,K⟩:=yT K1.out (.int .i64 f) (.bool false) (.int .i64 (-1));have L:=yCp K0.out (by omega:B≠B+1) (.int .i64 f) (.bool false) (.int .i64 (-1));have M:=yCp K2.out (by omega:B+2≠B+1) (.int .i64 f) (.bool false) (.int .i64 (-1));have N:=a4.out.trans (K.mono (by omega));generalize ((t.setCell _ _).setCell _ _).setCell _ _=W3 at J K L M N ⊢;have O:Boxed W3 B 9 (.string T):=L;have c3:=O.cell;have a5:=lh J;have a6:=lh O;have a7:=lh M;have a8:=lh N;clear J K L O M N D E F G H I K0 K1 K2;gi_wp2;clear c3;gi_loopw [2] (fun u2 wr=>∃(k:Nat) (a:Int),u2=.int .i64 k∧k≤n∧V=wnF T k a∧wr.heap[B+1]? = some (.cells #[a,false,.int .i64 (-1)] 33 (0,0))∧Boxed wr B 9 (.string T)∧wr.heap[B+2]? = some (.cells #[.int .i64 0,false,.int .i64 0] 33 (0,0))∧Below w w wr)
  (fun u2 _=>(intOf u2).toNat)
 case atStart=>exact⟨n,f,rfl,zT _,HV.out.symm,a5.out,a6.out,a7.out,a8.out⟩
 case round =>
  obtain⟨k,a,rfl,c5,hv,P,hX,d,hb⟩:=hrel;obtain⟨c0,c1,c2⟩:=qc3 P;obtain⟨D,E,F⟩:=qc3 d;have G:wr.frozen? ⟨B+2,0,none⟩=false:=fz d;have H:wr.frozen? ⟨B+2,1,none⟩=false:=fz d;have I:wr.frozen? ⟨B+2,2,none⟩=false:=fz d;have HC:=lh P;have HX:=lh hX;have Q:=lh d;have u:=lh hb;have R:=lh hv;have c6:=(zH.1 d).1;clear P hX d hb hv;cases k with
  | zero =>
    have b:V=a:=R.out;obtain⟨m,o⟩:=yT Q.out (.int .i64 a) (.bool false) (.int .i64 (-1));have S:=lh m;have U:=lh (u.out.trans (o.mono (by omega)));have d0:(((0:Nat):Int) != 0)=false:=rfl;have p:=lh b;clear m o b;gi_wp2;exact qC (JT (ty:=33) rfl _ _ (B+2) _ _ _ _ rfl S.out yh rfl yu) rfl ⟨by rw [p.out],U.out⟩
  | succ k =>
    have d0:(((k+1:Nat):Int) != 0)=true:=bne_iff_ne.2 (by omega);have c7:((k:Int)+1 != 0)=true:=bne_iff_ne.2 (by omega);have c8:(k+1 != 0)=true:=rfl;by_cases g:a=T.size
    ·have dg:(a != (T.size:Int))=false:=bne_eq_false_iff_eq.2 g;have b:V=a:=(by rw [R.out,wnF,Zg g]);obtain⟨m,o⟩:=yT Q.out (.int .i64 a) (.bool false) (.int .i64 (-1));have S:=lh m;have U:=lh (u.out.trans (o.mono (by omega)));have p:=lh b;clear m o b g;gi_wp2;exact qC (JT (ty:=33) rfl _ _ (B+2) _ _ _ _ rfl S.out yh rfl yu) rfl ⟨by rw [p.out],U.out⟩
    ·have dg:(a != (T.size:Int))=true:=bne_iff_ne.2 g;have b:V=wnF T k (nxW (max a 0) (yBt T) (yBy T) 0 T.size):=(by rw [R.out,wnF,Zf g]);have p:=lh b;have c9:IntKind.i64.wrap ((k:Int)+1-1)=(k:Int):=(by rw [ZH];omega);have d1:IntKind.i64.wrap (((k+1:Nat):Int)-1)=(k:Int):=(by rw [ZH];omega);have a9:=lh (fun W=>csign_any ((k+1:Nat):Int) W);clear b c0 c1 c2 D E F G H I;have c0:=qc1 HC.out;gi_wp2;refine⟨trivial,?_⟩;refine (qG.2 (cWstep_any T X B (B+1) B a false (-1) wr (HT.out wr u.out) (by omega) (by omega) (by omega) HX.out HC.out)).mono ?_;rintro e' W4 ⟨⟨v,rfl⟩,b3,b4,b5,b6⟩;gi_wp2;refine⟨trivial,?_⟩;refine (qG.2 (a9.out W4)).mono ?_;rintro e' W5 ⟨rfl,b7⟩;subst b7;rw [Zf (by omega)];gi_wp2;go_roundw
     case rel=>exact⟨k,_,by go_num,by omega,p.out,b3,b4,b6 (B+2) _ (by omega) Q.out,u.out.trans (A.symm▸b5)⟩
     case measure=>simp [intOf]
def tAB:ByteArray:=⟨#[97,98]⟩
def tCD:ByteArray:=⟨#[97,98,32,99,100]⟩
def tEF:ByteArray:=⟨#[97,98,32,99,100,32,101,102]⟩
def lCD:List OneR:=pageI tCD 4 0 0 false false
def lEF:List OneR:=pageI tEF 4 0 0 false false
def rEF (k:Nat):OneR:=lEF.getD k default
def sEF (k j:Nat):St:=(stK 0 0 false false false (rEF k)).getD j default
theorem wk_next:nxtI tAB 0=1:=by kernel_rfl
theorem wk_word:wnF tCD 1 (ctI tCD 0)=3:=by kernel_rfl
theorem wk_r0:lEF[0]? = some (rEF 0):=by kernel_rfl
theorem wk_r1:lEF[1]? = some (rEF 1):=by kernel_rfl
theorem wk_len:lEF.length=3:=by kernel_rfl
theorem wk_lcd:lCD.length=2:=by kernel_rfl
theorem wk_c1:lCD[1]? = some (lCD.getD 1 default):=by kernel_rfl
theorem wk_start:yW (lCD.getD 1 default)=3:=by kernel_rfl
theorem wk_p2:yEo tEF 0 0 false false false lEF 2 false=(((0:Nat):Int),((2:Nat):Int)):=by kernel_rfl
theorem wk_p1:yEo tEF 0 0 false false false lEF 1 false=(((0:Nat):Int),((1:Nat):Int)):=by kernel_rfl
theorem wk_h4:yBm lCD (ctI tCD 4) false=((1:Nat):Int):=by kernel_rfl
theorem wk_k2:yBv (ctI tEF 2) lEF 0 (-1)=0:=by kernel_rfl
theorem wk_k1:yBv (ctI tEF 1) lEF 0 (-1)=0:=by kernel_rfl
theorem wk_k4:yBv (ctI tCD 4) lCD 0 (-1)=1:=by kernel_rfl
theorem wk_s3:(stK 0 0 false false false (rEF 0))[3]? = some (sEF 0 3):=by kernel_rfl
theorem wk_s1:(stK 0 0 false false false (rEF 0))[1]? = some (sEF 0 1):=by kernel_rfl
theorem wk_s3a:(sEF 0 3).a=3:=by kernel_rfl
theorem wk_s3b:(sEF 0 3).back=true:=by kernel_rfl
theorem wk_s1x:(sEF 0 1).x=1:=by kernel_rfl
theorem wk_hit:yK9 0 0 false false false (rEF 1) 1=sEF 1 1:=by kernel_rfl
theorem wk_hita:(sEF 1 1).a=4:=by kernel_rfl
theorem wk_hitb:(sEF 1 1).back=false:=by kernel_rfl
theorem wk_z1:tAB.size=2:=rfl
theorem wk_z2:tCD.size=5:=rfl
theorem wk_z3:tEF.size=8:=rfl
theorem wk_next_any (w:World) (a:T8 w):Calls Tryz.prog 43 #[tAB,.agg #[.int .i64 0,false,.int .i64 0]] w fun e w'=>e=.returned (.agg #[.int .i64 1,false,.int .i64 (-1)])∧Below w w w' :=
 (yL1 tAB (by rw [wk_z1];omega) 0 0 false w a).mono fun e w' h=>by rw [wk_next] at h;exact h
theorem wk_word_any (w:World) (a:T8 w):Calls Tryz.prog 38 #[tCD,.agg #[.int .i64 0,false,.int .i64 0],.int .i64 1] w fun e w'=>e=.returned (.agg #[.int .i64 3,false,.int .i64 (-1)])∧Below w w w' :=
 (yMu tCD (by rw [wk_z2];omega) 0 0 false 1 (by omega) w a).mono fun e w' h=>by rw [wk_word] at h;exact h
theorem wk_right_any (w:World) (a:T8 w) (b:DB w):Calls Tryz.prog 36 #[tEF,.int .i64 4,.agg #[.int .i64 0,false,.int .i8 0,false,false],.agg #[.int .i64 2,false,.int .i64 0]] w fun e w'=>e=.returned (.agg #[.int .i64 3,true,.int .i64 (-1)])∧Below w w w' :=
 (yLz tEF (by rw [wk_z3];omega) 4 0 0 false false false 2 0 false (sEF 0 3) (by show lEF.length≤1000000;rw [wk_len];omega)
   (fun base c W d f g=>yKs tEF (by rw [wk_z3];omega) 0 0 false false false lEF (by rw [wk_len];omega) (yEb tEF (by rw [wk_z3];omega) 4 0 0 false false).2 2 0 false 0 2 (rEF 0) wk_r0 wk_p2 (by rw [wk_k2];omega) 1 3 (by omega) (sEF 0 3) wk_s3 base c W d f g) w a b).mono
   fun e w' h=>by unfold yAy at h;rw [wk_s3a,wk_s3b] at h;exact h
theorem wk_down_any (w:World) (a:T8 w) (b:DB w):Calls Tryz.prog 37 #[tEF,.int .i64 4,.agg #[.int .i64 0,false,.int .i8 0,false,false],.agg #[.int .i64 1,false,.int .i64 (-1)],.int .i64 1] w fun e w'=>e=.returned (.agg #[.int .i64 4,false,.int .i64 1])∧Below w w w' :=
 (yRf tEF (by rw [wk_z3];omega) 4 0 0 false false false lEF rfl (by rw [wk_len];omega) (yEb tEF (by rw [wk_z3];omega) 4 0 0 false false).2 1 (-1) false 0 1 (rEF 0) wk_r0 wk_p1 (by rw [wk_k1];omega) (sEF 0 1) wk_s1 1 1 (by omega) (rEF 1) wk_r1
   1 (by rw [Zg (by omega),wk_s1x]) (sEF 1 1) (by rw [Zf (by omega),wk_hit]) w a b).mono
   fun e w' h=>by rw [wk_hita,wk_hitb] at h;exact h
theorem wk_home_any (w:World) (a:T8 w) (b:DB w):Calls Tryz.prog 39 #[tCD,.int .i64 4,.agg #[.int .i64 0,false,.int .i8 0,false,false],.agg #[.int .i64 4,false,.int .i64 0]] w fun e w'=>e=.returned (.agg #[.int .i64 3,false,.int .i64 (-1)])∧Below w w w' :=
 (cHome_any tCD (by rw [wk_z2];omega) 4 0 0 false false false lCD rfl (by rw [wk_lcd];omega) (yEb tCD (by rw [wk_z2];omega) 4 0 0 false false).2 4 0 false 1 _ wk_c1 wk_h4 (by rw [wk_k4];omega) w a b).mono
   fun e w' h=>by rw [wk_start] at h;exact h
theorem yI1 (w:World) (O:T8 w) (P:DB w):Calls Tryz.prog 34 #[] w fun e w'=>e=.returned (.bool true)∧Below w w w':=by
 have a:=lh (fun (W:World) (h:Below w w W)=>(⟨O.below rfl h,P.below h⟩:T8 W∧DB W));have d:∀(W:World) (o:Obj),Below W W (W.alloc o):=fun W o=>(Zc _ _).alloc (zT _) _;clear O P;go_enter Tryz.func34,Tryz.ntmps34;have b0:∀(w:World),Sem.run Tryz.prog (Instr.field 33 (.agg #[.int .i64 3,false,.int .i64 (-1)]) 0) w=.ok (.int .i64 3) w:=fun w=>by kernel_rfl
 go_upto_region 2 with fail;have m:=zL w (.cells #[.int .i64 0,false,.int .i8 0,false,false] 26);have D:=d w (.cells #[.int .i64 0,false,.int .i8 0,false,false] 26);generalize w.alloc _=W1 at m D ⊢;obtain⟨B,Q⟩:=nm (w.heap.size);have E:=lh D;rw [Q] at m
 try rw [Q]
 have R:=lh m;clear m D;go_upto_region 3 with (go_at_call 43;refine (wk_next_any W1 (a.out W1 E.out).1).mono ?_;rintro e n ⟨rfl,F⟩);have p:=zL n (.cells #[.int .i64 1,false,.int .i64 (-1)] 33);have q:=F.trans ((d n (.cells #[.int .i64 1,false,.int .i64 (-1)] 33)).mono F.size);generalize n.alloc _=W2 at p q ⊢;obtain⟨G,S⟩:∃C,n.heap.size=C:=⟨_,rfl⟩;rw [S] at p
 try rw [S]
 have r:=lh (E.out.trans (q.mono E.out.size));have H:=lh ((q.block B (zH.1 R.out).1).trans R.out);have T:=lh p;clear p q F;obtain⟨f,g,i,j,k⟩:=qc5 H.out;go_upto_region 4 with (go_at_call 36;refine (wk_right_any W2 (a.out W2 r.out).1 (a.out W2 r.out).2).mono ?_;rintro e s ⟨rfl,I⟩);have t:=zL s (.cells #[.int .i64 3,true,.int .i64 (-1)] 33);have l:=I.trans ((d s (.cells #[.int .i64 3,true,.int .i64 (-1)] 33)).mono I.size);generalize s.alloc _=W3 at t l ⊢;obtain⟨U,V⟩:∃C,s.heap.size=C:=⟨_,rfl⟩;rw [V] at t
 try rw [V]
 have u:=lh (r.out.trans (l.mono r.out.size));have J:=lh ((l.block B (zH.1 H.out).1).trans H.out);have X:=lh t;have Y:=lh ((l.block G (zH.1 T.out).1).trans T.out);clear t l I f g i j k;obtain⟨f,g,i,j,k⟩:=qc5 J.out;go_upto_region 5 with (go_at_call 37;refine (wk_down_any W3 (a.out W3 u.out).1 (a.out W3 u.out).2).mono ?_;rintro e v ⟨rfl,K⟩);have x:=zL v (.cells #[.int .i64 4,false,.int .i64 1] 33);have c:=K.trans ((d v (.cells #[.int .i64 4,false,.int .i64 1] 33)).mono K.size);generalize v.alloc _=W4 at x c ⊢;obtain⟨C2,Z⟩:∃C,v.heap.size=C:=⟨_,rfl⟩;rw [Z] at x
 try rw [Z]
 have y:=lh (u.out.trans (c.mono u.out.size));have L:=lh ((c.block B (zH.1 J.out).1).trans J.out);have a0:=lh x;have a1:=lh ((c.block G (zH.1 Y.out).1).trans Y.out);have a2:=lh ((c.block U (zH.1 X.out).1).trans X.out);clear x c K f g i j k;obtain⟨f,g,i,j,k⟩:=qc5 L.out;go_upto_region 6 with (go_at_call 39;refine (wk_home_any W4 (a.out W4 y.out).1 (a.out W4 y.out).2).mono ?_;rintro e z ⟨rfl,M⟩);have A:=zL z (.cells #[.int .i64 3,false,.int .i64 (-1)] 33);have b:=M.trans ((d z (.cells #[.int .i64 3,false,.int .i64 (-1)] 33)).mono M.size);generalize z.alloc _=W5 at A b ⊢;obtain⟨C3,a3⟩:∃C,z.heap.size=C:=⟨_,rfl⟩;rw [a3] at A
 try rw [a3]
 have N:=lh (y.out.trans (b.mono y.out.size));have b1:=lh ((b.block B (zH.1 L.out).1).trans L.out);have a5:=lh A;have a6:=lh ((b.block G (zH.1 a1.out).1).trans a1.out);have a7:=lh ((b.block U (zH.1 a2.out).1).trans a2.out);have a8:=lh ((b.block C2 (zH.1 a0.out).1).trans a0.out);clear A b M f g i j k;obtain⟨b2,-,b3⟩:=qc3 a6.out;obtain⟨b4,b5⟩:=qc2 a7.out;obtain⟨b6,-,b7⟩:=qc3 a8.out;have b8:=qc1 a5.out;go_wp2_with (go_at_call 38;refine (wk_word_any W5 (a.out W5 N.out).1).mono ?_;rintro e v9 ⟨rfl,a4⟩;have a9:=lh (N.out.trans (a4.mono N.out.size));clear a4);go_ret;exact⟨rfl,a9.out⟩
end
end Go.Proofs.YtncplikdjcmoeaaGreatDoor
