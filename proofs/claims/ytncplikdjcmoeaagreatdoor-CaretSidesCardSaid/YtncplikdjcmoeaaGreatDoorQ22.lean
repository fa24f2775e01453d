/- Lemmas, part 22: no further condition than each states. -/
import Derived.Test.YtncplikdjcmoeaaGreatDoorQ18
namespace Go.Proofs.YtncplikdjcmoeaaGreatDoor
set_option linter.unusedVariables false
set_option linter.unusedSimpArgs false
set_option maxRecDepth 100000
set_option maxHeartbeats 4000000
section
open Go.RowKit Go.Proofs Go.Shelf
attribute [local go_sem] qV
theorem cLeft_of (T:ByteArray) (hs:T.size≤65536) (C f g:Int) (j r k:Bool) (c y:Int) (z:Bool) (s:St) (hn:(pageI T C f g j k).length≤1000000)
 (Q:∀(base D:Nat) (W:World),yE9 W base D T f g j r k (pageI T C f g j k)→T8 W→DB W→Calls Tryz.prog 70 #[.pointer (some ⟨D,0,none⟩),.agg #[c,z,y],.int .i64 (-1)] W fun e w'=>e=.returned (yAy s)∧Below W W w')
 (w:World) (R:T8 w) (U:DB w) :
 Calls Tryz.prog 42 #[T,C,.agg #[f,j,.int .i8 g,r,k],.agg #[c,z,y]] w fun e w'=>e=.returned (yAy s)∧Below w w w':=by
 have E:=lh (fun (W:World) (h:Below w w W)=>(⟨R.below rfl h,U.below h⟩:T8 W∧DB W));have b4:=lh (fun (W:World) (h:Below w w W)=>yIl T hs C f g j r k hn W (E.out W h).1 (E.out W h).2);have b5:=lh Q;obtain⟨h0,t,F,V,X⟩:=yCi w (.cells #[f,j,.int .i8 g,r,k] 26) (.cells #[c,z,y] 33) (.cells #[.int .i64 0,false,.int .i64 0] 33);clear R U Q;go_enter Tryz.func42,Tryz.ntmps42;go_upto_region 1 with fail;generalize ((w.alloc _).alloc _).alloc _=W1 at h0 t F V X ⊢;obtain⟨B,Y⟩:=nm (w.heap.size);have q:=lh V;rw [Y] at h0 t F X
 try rw [Y]
 obtain⟨S,L⟩:∃S:World→Prop,(fun W=>yi [B,B+1] W1 W)=S:=⟨_,rfl⟩;have Z:∀W,S W→yi [B,B+1] W1 W:=fun W h=>by rw [←L] at h;exact h
 have M:∀W,yi [B,B+1] W1 W→S W:=fun W h=>by rw [←L];exact h
 have d:∀(b i:Nat) (u:Value),b∈[B,B+1]→W1.cell? ⟨b,i,none⟩=some u→∀p:WIn S,p.w.cell? ⟨b,i,none⟩=some u:=fun b i u l h p=>(yBb (Z _ p.h b l)).trans h;have a0:=d B 0 (.int .i64 f) (by simp) (ce h0);have a1:=d B 1 (.bool j) (by simp) (ce h0);have a2:=d B 2 (.int .i8 g) (by simp) (ce h0);have a3:=d B 3 (.bool r) (by simp) (ce h0);have a4:=d B 4 (.bool k) (by simp) (ce h0);have b0:=d (B+1) 0 (.int .i64 c) (by simp) (ce t);have b1:=d (B+1) 1 (.bool z) (by simp) (ce t);have b2:=d (B+1) 2 (.int .i64 y) (by simp) (ce t);have m:=lh M;have b6:Nonempty (WIn S):=⟨⟨W1,M _ (fun _ _=>rfl)⟩⟩;have H2:=lh F;have N:∀b∈[B,B+1],b<W1.heap.size:=fun b l=>by
  simp only [zX,ze,or_false] at l;rcases l with rfl | rfl <;> omega
 clear d Z M L h0 t F;refine yn S (by kernel_rfl) ?_;have G:Below W1 W1 W1.drew:=(Zc _ _).drew;have a5:yi [B,B+1] W1 W1.drew:=fun _ _=>rfl;generalize W1.drew=X0 at G a5 ⊢;have HL:=lh (b4.out X0 (q.out.trans (G.mono q.out.size)));refine yAq [0,1,2,4] 3 [_,_,_,_] (fuel:=2) yC (by kernel_rfl) (m.out _ a5) ?_
 repeat (go_big_quiet_step (fail))
 refine Zt ?_;intro K n;go_wp2_with (go_at_call 69;refine HL.out.mono ?_;rintro e H ⟨D,rfl,b9,a6,a7⟩);have v:=G.trans (a7.mono G.size);have O:yi [B,B+1] W1 H:=yi.below (W:=W1) (fun _ _=>rfl) v N;refine n.out _ _ (m.out _ O) ?_;clear n;have a8:=lh (b5.out _ D H a6 (E.out H (q.out.trans (v.mono q.out.size))).1 (E.out H (q.out.trans (v.mono q.out.size))).2);refine yj 5 (fuel:=1) yC (by kernel_rfl) (m.out _ O) fun K n=>?_;go_wp2_with (go_at_call 70;refine a8.out.mono ?_;rintro e A ⟨rfl,a9⟩);have I:=v.trans (a9.mono v.size);have J:yi [B,B+1] W1 A:=yi.below (W:=W1) (fun _ _=>rfl) I N;refine n.out _ _ (m.out _ J) ?_;clear n a8;have x:=(I.block (B+2) (by omega)).trans H2.out;obtain⟨e0,e1,e2⟩:=qc3 x;have f0:A.frozen? ⟨B+2,0,none⟩=false:=fz x;have f1:A.frozen? ⟨B+2,1,none⟩=false:=fz x;have f2:A.frozen? ⟨B+2,2,none⟩=false:=fz x;refine yj 6 (fuel:=0) yC (by kernel_rfl) (m.out _ J) fun K n=>?_;unfold yAy;go_wp2;obtain⟨hg,b3⟩:=yT x (.int .i64 s.a) (.bool s.back) (.int .i64 (-1));have P:yi [B,B+1] W1 (((A.setCell ⟨B+2,0,none⟩ (.int .i64 s.a)).setCell ⟨B+2,1,none⟩ (.bool s.back)).setCell ⟨B+2,2,none⟩ (.int .i64 (-1))):=fun b l=>by
  have h4:=J b l;have b7:=N b l;obtain⟨o,ho⟩:∃o,W1.heap[b]? = some o:=⟨_,qs b7⟩;rw [ho] at h4 ⊢;simp only [zX,ze,or_false] at l;exact yCp h4 (by omega) _ _ _
 refine n.out _ _ (m.out _ P) ?_;clear n;refine yAi [] yC (by kernel_rfl) (m.out _ P) ?_;simp only [yS,zE];refine Zt ?_;have HG:=lh hg;have b8:=lh (q.out.trans ((I.mono (by omega:w.heap.size≤W1.heap.size)).trans (b3.mono (by omega))));simp only [NoPanic];clear hg b3 P J O I v a7 a9 e0 e1 e2 f0 f1 f2 x a0 a1 a2 a3 a4 b0 b1 b2 b6 m a6;go_wp2;exact qC (JT (ty:=33) rfl _ _ (B+2) _ _ _ _ rfl HG.out yh rfl yu) rfl ⟨rfl,b8.out⟩
section
variable (T:ByteArray) (hs:T.size≤65536) (wd tab want:Int) (wideA join raw:Bool) (L:List OneR) (hL:pageI T wd tab want wideA raw=L) (hn:L.length≤1000000) (i j:Nat) (x:OneR) (hx:L[i]? = some x) (st s:St) (hst:(stK tab want wideA join raw x)[j]? = some st) (cw:Int)
include hs hL hn hx hst
theorem cleft_stop (m:Nat) (n:j=m+1) (f:(stK tab want wideA join raw x)[m]? = some s) (w:World) (b:T8 w) (c:DB w) :
 Calls Tryz.prog 42 #[T,wd,.agg #[tab,wideA,.int .i8 want,join,raw],.agg #[st.a,st.back,cw]] w fun e w'=>e=.returned (yAy s)∧Below w w w':=by
 subst hL;obtain⟨g,d⟩:=yEb T hs wd tab want wideA raw;obtain⟨o,h⟩:=yG6 g d tab want wideA join raw i j x hx st hst;exact cLeft_of T hs wd tab want wideA join raw st.a cw st.back s hn (fun base k W l b c=>yKs T hs tab want wideA join raw _ (by omega) d st.a cw st.back i j x hx h (yOe T hs wd tab want wideA raw hx _ (by omega)) (-1) m (by omega) s f base k W l b c) w b c
end
theorem LawCS_any (E:ByteArray) (t f g c cw nn:Int) (l q o a7:Bool) (w:World) (hT:T8 w) (hD:DB w) :
 Calls Tryz.prog 9 #[E,.agg #[t,f,l,.int .i8 g,q,o,c,a7,cw,nn]] w fun e w'=>e=.returned (.bool true)∧Below w w w':=by
 obtain⟨T,b1⟩:=nm (E.extract 0 (min E.size 2000));have h4:T.size≤2000:=b1▸yOw E;have J:T.size≤65536:=by omega
 obtain⟨L,M⟩:=nm (pageI T t f g l o);obtain⟨n,hn⟩:=nm (L.length);have h5:n≤100000:=by rw [←hn,←M];have:=yPh T J t f g l o;omega
 have b2:=yEb T J t f g l o;rw [M] at b2;have d6:=lh (fun (W:World) (h:Below w w W)=>(yMf T J t f g l q o (by rw [M,hn];omega) W (hT.below rfl h) (hD.below h)).mono (fun e w' h=>(by rw [M,hn] at h;exact h:∃pa cap,e=.returned (.tuple #[.slice pa n cap,true])∧yN yFa 75 w' W.heap.size (.slice pa n cap) L∧Below W W w')));have f9:=lh (fun (W:World) (h:Below w w W) (x:OneR) (u:x∈L)=>yQ6 T J f g l q o x (b2.2 x u) W (hT.below rfl h) (hD.below h));have d7:=lh (fun (W:World) (h:Below w w W) (i j:Nat) (x:OneR) (u:L[i]? = some x) (y s:St) (z:(stK f g l q o x)[j]? = some y) (c2:(stK f g l q o x)[j+1]? = some s)=>yNe T J t f g l q o L M (by omega) i j x u y s z (-1) c2 W (hT.below rfl h) (hD.below h));have d8:=lh (fun (W:World) (h:Below w w W) (i j:Nat) (x:OneR) (u:L[i]? = some x) (y s:St) (z:(stK f g l q o x)[j]? = some y) (c2:(stK f g l q o x)[j+1]? = some s)=>cleft_stop T J t f g l q o L M (by omega) i (j+1) x u s y c2 (-1) j rfl z W (hT.below rfl h) (hD.below h));have d9:=lh (fun (W:World) (h:Below w w W)=>yI1 W (hT.below rfl h) (hD.below h));unfold yAy at d7 d8;have g0:=lh b2.2;have HN:=lh hn;obtain⟨m,hm⟩:=nm (min E.size 2000);rw [hm] at b1;have g1:min (E.size:Int) 2000=(m:Int):=by omega
 have g2:(m:Int)≤(E.size:Int):=by omega
 have g3:m≤E.size:=by omega
 clear b2 hT hD M hn;go_enter Tryz.func9,Tryz.ntmps9;go_upto_region 1 with fail;have a8:=zL w (.cells #[t,f,l,.int .i8 g,q,o,c,a7,cw,nn] 70);have b3:=qal w (.cells #[t,f,l,.int .i8 g,q,o,c,a7,cw,nn] 70);have e0:=zM w (.cells #[t,f,l,.int .i8 g,q,o,c,a7,cw,nn] 70);generalize w.alloc _=W1 at a8 b3 e0 ⊢;obtain⟨B,hB⟩:=nm (w.heap.size);have e5:=lh (d6.out W1 b3);have e6:=lh b3;rw [hB] at a8 e0
 try rw [hB]
 have e7:=lh a8;obtain⟨a0,N,O,P,R,U⟩:=qc6 a8;clear b3 a8 d6;go_upto_region 2 with fail
 try rw [b1]
 go_upto_region 3 with (go_at_call 33;refine e5.out.mono ?_;rintro e w2 ⟨pa,cap,rfl,hO,b4⟩);have e8:=(b4.block B (by omega)).trans e7.out;have e9:=lh (e6.out.trans (b4.mono e6.out.size));have h6:=b4.size;have g4:=lh (fun (W:World) (D:Below w2 w2 W) (i:Nat) (x:OneR) (u:L[i]? = some x)=>yKk (by rw [HN.out];exact hO) D i x u);have g5:=lh e8;clear a0 N O P R U b4 hO e8 e5 e7 b1 g1 g2 g3 hm;go_upto_block 0 with fail;go_wp2;go_loopw [7,8,9] (fun u7 _ _ wx=>∃(i:Nat),i≤n∧u7=.int .i64 i∧Below w2 w2 wx) (fun u7 _ _ _=>n-(intOf u7).toNat)
 case atStart=>exact⟨0,zd _,rfl,Zc _ _⟩
 case round =>
  obtain⟨i,h7,rfl,D⟩:=hrel;have HB:=lh D;have C:=lh (e9.out.trans (D.mono e9.out.size));by_cases h8:i<n
  ·by_cases h9:i<20
   ·have f0:(i:Int)<(n:Int):=(by omega);have g6:(i:Int)<20:=(by omega);have i0:IntKind.i64.wrap ((i:Int)+1)=(i:Int)+1:=(by rw [ZH];omega);obtain⟨x,u⟩:∃x,L[i]? = some x:=⟨_,zF (by have:=HN.out;omega)⟩;obtain⟨G,rfl,i1,x0,x1,x2,x3,x4,x5,x6⟩:=g4.out wr D i x u;have V:=(D.block B (by omega)).trans g5.out;obtain⟨-,N,O,P,R,U⟩:=qc6 V;have f1:=lh V;have b5:=lh u;have g7:B<wr.heap.size:=(zH.1 V).1;clear u V D;go_upto_region 8 with fail;obtain⟨S,a9,X⟩:∃S:World→Prop,(∀W,S W→Below wr wr W)∧(∀W,Below wr wr W→S W):=⟨fun W=>Below wr wr W,fun _ h=>h,fun _ h=>h⟩;have d:∀(b i:Nat) (v:Value),wr.cell? ⟨b,i,none⟩=some v→∀p:WIn S,p.w.cell? ⟨b,i,none⟩=some v:=fun b i v h p=>yB (a9 _ p.h) (yD h) h;have q0:=d _ _ _ x0;have q1:=d _ _ _ x1;have q2:=d _ _ _ x2;have q3:=d _ _ _ x3;have q4:=d _ _ _ x4;have q5:=d _ _ _ x5;have q6:=d _ _ _ x6;have q7:=d _ _ _ N;have q8:=d _ _ _ O;have q9:=d _ _ _ P;have c3:=d _ _ _ R;have c4:=d _ _ _ U;have A:=lh X;have c5:Nonempty (WIn S):=⟨⟨wr,X _ (Zc _ _)⟩⟩;clear a9 X d x0 x1 x2 x3 x4 x5 x6 N O P R U;refine yn S (by kernel_rfl) ?_;have r:Below wr wr wr.drew:=(Zc _ _).drew;generalize wr.drew=X0 at r ⊢;have c6:=f9.out X0 (C.out.trans (r.mono C.out.size)) x (zS b5.out);obtain⟨Q,hQ⟩:=nm (stK f g l q o x);obtain⟨F,c7⟩:∃k,Q.length=k:=⟨_,rfl⟩;have f2:Q≠[]:=hQ▸stK_ne f g l q o x;rw [hQ,c7] at c6;have H:=lh c6;have HQ:=lh hQ;have g8:=lh f2;have b6:=lh c7;clear c6 hQ f2 c7;refine yAq [0,1,2,3,4,5] 6 [_,_,_,_,_,_] (fuel:=1) yC (by kernel_rfl) (A.out _ r) ?_
    repeat (go_big_quiet_step (fail))
    refine Zt ?_;intro K I;go_wp2_with (go_at_call 35;refine H.out.mono ?_;rintro e w5 ⟨qa,qc,rfl,f3,f4⟩);have Y:=r.trans (f4.mono r.size);refine I.out _ _ (A.out _ Y) ?_;clear I;refine yAi [7] yC (by kernel_rfl) (A.out _ Y) ?_;simp only [yS,zD,zE,zC,zB,zA];show wpQuiet _ _ _ _ [_] _
    repeat (go_big_quiet_step (fail))
    refine Zt ?_;simp only [NoPanic];have i2:F≤8388608:=by
     rw [←b6.out,←HQ.out];exact stK_max T J f g l q o x (g0.out x (zS b5.out))
    obtain⟨G2,rfl,_,gl,z⟩:=yLc b6.out f3 g8.out;have g9:=lh z;have h0:=lh ((Y.block B g7).trans f1.out);have b7:=lh (HB.out.trans (Y.mono HB.out.size));have f5:=lh (C.out.trans (Y.mono C.out.size));have h1:B<w5.heap.size:=(by have:=Y.size;omega);clear q0 q1 q2 q3 q4 q5 q6 q7 q8 q9 c3 c4 c5 A r Y f4 f3 z H f1;go_upto_block 2 with fail;go_wp2;go_loopw [9] (fun u9 wx=>∃(k:Nat),k≤F∧u9=.int .i64 k∧Below w5 w5 wx) (fun u9 _=>F-(intOf u9).toNat)
    case atStart=>exact⟨0,zd _,rfl,Zc _ _⟩
    case round =>
     obtain⟨k,i3,rfl,Z⟩:=hrel;have b8:=lh Z;have i4:IntKind.i64.wrap ((k:Int)+1)=(k:Int)+1:=(by rw [ZH];omega);have b9:=lh (f5.out.trans (Z.mono f5.out.size));by_cases i5:k+1<F
     ·by_cases i6:k<40
      ·have f6:(k:Int)+1<(F:Int):=(by omega);have i7:(k:Int)<(F:Int):=(by omega);have h2:(k:Int)<40:=(by omega);obtain⟨y,z⟩:∃s,Q[k]? = some s:=⟨_,zF (by have:=b6.out;omega)⟩;obtain⟨s2,c0⟩:∃s,Q[k+1]? = some s:=⟨_,zF (by have:=b6.out;omega)⟩;have c8:=g9.out.same (Z.block G2 gl);obtain⟨y0,y1,y2⟩:=c8.2 k y z;obtain⟨z0,z1,z2⟩:=c8.2 (k+1) s2 c0;have V:=(Z.block B h1).trans h0.out;obtain⟨a0,N,O,P,R,U⟩:=qc6 V;have c9:=lh (fun (W:World) (h:Below wr wr W)=>d7.out W (b9.out.trans (h.mono b9.out.size)) i k x b5.out y s2 (HQ.out▸z) (HQ.out▸c0));have d0:=lh (fun (W:World) (h:Below wr wr W)=>d8.out W (b9.out.trans (h.mono b9.out.size)) i k x b5.out y s2 (HQ.out▸z) (HQ.out▸c0));obtain⟨ta,d1⟩:∃a,(y.a:Int)=a:=⟨_,rfl⟩;obtain⟨tb,d2⟩:∃a,y.back=a:=⟨_,rfl⟩;obtain⟨ua,d3⟩:∃a,(s2.a:Int)=a:=⟨_,rfl⟩;obtain⟨ub,d4⟩:∃a,s2.back=a:=⟨_,rfl⟩;rw [d1] at y0;rw [d2] at y1;rw [d3] at z0;rw [d4] at z1;rw [d1,d2,d3,d4] at c9 d0;have e1:(ta==ta)=true:=zk _;have e2:(tb==tb)=true:=zk _;have e3:(ua==ua)=true:=zk _;have e4:(ub==ub)=true:=zk _;clear c8 z c0 V Z d1 d2 d3 d4;go_upto_region 12 with fail;obtain⟨S,a9,X⟩:∃S:World→Prop,(∀W,S W→Below wr wr W)∧(∀W,Below wr wr W→S W):=⟨fun W=>Below wr wr W,fun _ h=>h,fun _ h=>h⟩;have d:∀(b i:Nat) (v:Value),wr.cell? ⟨b,i,none⟩=some v→∀p:WIn S,p.w.cell? ⟨b,i,none⟩=some v:=fun b i v h p=>yB (a9 _ p.h) (yD h) h;have q0:=d _ _ _ y0;have q1:=d _ _ _ y1;have q2:=d _ _ _ y2;have q3:=d _ _ _ z0;have q4:=d _ _ _ z1;have q5:=d _ _ _ z2;have q6:=d _ _ _ a0;have q7:=d _ _ _ N;have q8:=d _ _ _ O;have q9:=d _ _ _ P;have c3:=d _ _ _ R;have c4:=d _ _ _ U;have A:=lh X;have c5:Nonempty (WIn S):=⟨⟨wr,X _ (Zc _ _)⟩⟩;clear a9 X d y0 y1 y2 z0 z1 z2 a0 N O P R U;refine yn S (by kernel_rfl) ?_;have r:Below wr wr wr.drew:=(Zc _ _).drew;generalize wr.drew=X0 at r ⊢;have H:=lh (c9.out X0 r);refine yAq [0,1,2,3,4,5,6,7,8,10,11,12,13,14] 9 [_,_,_,_,_,_,_,_,_,_,_,_,_,_] (fuel:=19) yC (by kernel_rfl) (A.out _ r) ?_
       repeat (go_big_quiet_step (fail))
       refine Zt ?_;intro K I;go_wp2_with (go_at_call 36;refine H.out.mono ?_;rintro e w7 ⟨rfl,f7⟩);have a6:=r.trans (f7.mono r.size);refine I.out _ _ (A.out _ a6) ?_;clear I H;have H:=lh (d0.out w7 a6);refine yAq [15,16,17,18,19,20,21,22,23,24,25,26,28,29,30,31] 27 [_,_,_,_,_,_,_,_,_,_,_,_,_,_,_,_] (fuel:=2) yC (by kernel_rfl) (A.out _ a6) ?_
       repeat (go_big_quiet_step (fail))
       refine Zt ?_;intro K I;go_wp2_with (go_at_call 42;refine H.out.mono ?_;rintro e w8 ⟨rfl,f8⟩);have c1:=a6.trans (f8.mono a6.size);refine I.out _ _ (A.out _ c1) ?_;clear I H;refine yAi [32,33] yC (by kernel_rfl) (A.out _ c1) ?_;simp only [yS,zD,zE,zC,zB,zA];show wpQuiet _ _ _ _ [_,_] _
       repeat (go_big_quiet_step (fail))
       refine Zt ?_;simp only [NoPanic];have h3:=lh (b8.out.trans (c1.mono b8.out.size));clear q0 q1 q2 q3 q4 q5 q6 q7 q8 q9 c3 c4 c5 A r a6 c1 f7 f8 c9 d0;go_wp2;go_roundw
       case rel=>exact⟨k+1,by omega,by go_num,h3.out⟩
       case measure=>simp [intOf];omega
      ·have f6:(k:Int)+1<(F:Int):=(by omega);have h2:¬ ((k:Int)<40):=(by omega);have HE:=lh (b7.out.trans (b8.out.mono b7.out.size));clear Z;go_wp2;go_roundw
       case rel=>exact⟨i+1,by omega,by go_num,HE.out⟩
       case measure=>simp [intOf];omega
     ·have f6:¬ ((k:Int)+1<(F:Int)):=(by omega);have HE:=lh (b7.out.trans (b8.out.mono b7.out.size));clear Z;go_wp2;go_roundw
      case rel=>exact⟨i+1,by omega,by go_num,HE.out⟩
      case measure=>simp [intOf];omega
   ·have f0:(i:Int)<(n:Int):=(by omega);have g6:¬ ((i:Int)<20):=(by omega);have HK:=lh (d9.out wr C.out);clear D;go_wp2_with (go_at_call 34;refine HK.out.mono ?_;rintro e w9 ⟨rfl,b0⟩;have d5:=lh (C.out.trans (b0.mono C.out.size));clear b0);go_ret;exact⟨rfl,d5.out⟩
  ·have f0:¬ ((i:Int)<(n:Int)):=(by omega);have HK:=lh (d9.out wr C.out);clear D;go_wp2_with (go_at_call 34;refine HK.out.mono ?_;rintro e w9 ⟨rfl,b0⟩;have d5:=lh (C.out.trans (b0.mono C.out.size));clear b0);go_ret;exact⟨rfl,d5.out⟩
end
end Go.Proofs.YtncplikdjcmoeaaGreatDoor
