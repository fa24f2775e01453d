/- Lemmas, part 14: no further condition than each states. -/
import Derived.Test.YtncplikdjcmoeaaGreatDoorQ13
namespace Go.Proofs.YtncplikdjcmoeaaGreatDoor
set_option linter.unusedVariables false
set_option linter.unusedSimpArgs false
set_option maxRecDepth 100000
set_option maxHeartbeats 4000000
section
open Go.RowKit Go.Proofs Go.Shelf
attribute [local go_sem] qV
theorem caret_under:Tryz.prog.underlying 33=some (.struct (Tryz.prog.fieldsOf 33)):=by kernel_rfl
theorem caret_size:(Tryz.prog.info? 33).map (·.size)=some 3:=by kernel_rfl
theorem gap_any (x y:Int) (a : -1099511627776≤x∧x≤1099511627776) (b : -1099511627776≤y∧y≤1099511627776) (w:World) :
 Calls Tryz.prog 51 #[x,y] w fun e w'=>e=.returned (.int .i64 (yEz x y))∧w=w':=by
 have c:IntKind.i64.wrap (x-y)=x-y:=by rw [ZH];omega
 have d:IntKind.i64.wrap (y-x)=y-x:=by rw [ZH];omega
 go_enter Tryz.func51,Tryz.ntmps51;go_wp2;go_ret;exact⟨rfl,rfl⟩
theorem Hit_any (s:ByteArray) (hs:s.size≤2097152) (t u a6 z fin A g x:Int) (C y m:Bool) (w:World) (hT:T8 w) (hD:DB w) (c6:∀p∈lay2 s g y m t u,p.level<256)
 (a7:(rawS (layI s A g C y m t u z) fin).length≤8388608) (a8:0<(rawS (layI s A g C y m t u z) fin).length) (c7:yAe (rawS (layI s A g C y m t u z) fin)) (a9:yAe (stopsI (layI s A g C y m t u z) fin)) :
 Calls Tryz.prog 14 #[s,yDq t u a6 z fin,yEq A g C y m,x] w fun e w' =>
  e=.returned (.agg #[.int .i64 (yHo (layI s A g C y m t u z) fin x).a,.bool (yHo (layI s A g C y m t u z) fin x).back,.int .i64 (-1)])∧Below w w w':=by
 have c8:=yO6 s g m;have c9:=layL_lv s A g C y m t u z c6;have d0:=yH7 s A g C y m t u z hs;have b5:=wsum_le (layL_bd s A g C y m t u z);rw [←yPv] at b5;have d1:=lh (fun (W:World) (h:Below w w W)=>yQ8 s hs t u a6 z fin A g C y m W (hT.below rfl h) (hD.below h) c6);obtain⟨R,I⟩:=nm (layI s A g C y m t u z);have eL:layL s A g C y m t u z=R.l:=Zb LaidR.l I;have eb:yJx s g m=R.base:=Zb LaidR.base I;have ex:(lay3 s A g C y m t u z).2=R.wide:=Zb LaidR.wide I;rw [I] at d1 a7 a8 c7 a9 ⊢;rw [eL] at c9 d0 b5;rw [ex] at b5;rw [eb] at c8;have b6:=lh (fun (b:Nat) (W:World) (hL:yDs W b R)=>stops_any b R fin W hL c8 c9 d0 a7 a8 c7);have d2:(stopsI R fin).length=(rawS R fin).length:=by unfold stopsI;rw [yMe]
 obtain⟨o,e3⟩:=nm (min (max x 0) R.wide);have j5:0≤o∧o≤39845888:=by rw [←e3];omega
 obtain⟨Q,J⟩:=nm (stopsI R fin);have e4:yHo R fin x=yFy o Q (Q.getD 0 default):=by unfold yHo;rw [e3,J]
 rw [←d2,J] at b6;rw [←d2,J] at a7 a8;rw [J] at a9;rw [e4];obtain⟨n,hn⟩:=nm (Q.length);rw [hn] at b6 a7 a8;obtain⟨f,d3⟩:∃f,Q[0]? = some f:=⟨_,zF (by omega)⟩;have e5:Q.getD 0 default=f:=by rw [zI,d3];rfl
 rw [e5];have e6:=lh d3;clear e5 d3;have e7:=lh a9;clear I eL eb ex c9 c6 hT hD c7 d2 J c8 e4 a9 b5 d0;go_enter Tryz.func14,Tryz.ntmps14;unfold yDq;go_upto_region 1 with fail;obtain⟨h0,h1,h2,b7,e8⟩:=yIo w (.cells #[t,u,.int .u8 a6,z,.int .i8 fin] 24) (.cells #[A,C,.int .i8 g,y,m] 26) (.cells #[.int .i64 0,false,.int .i64 0] 33);generalize ((w.alloc _).alloc _).alloc _=W1 at h0 h1 h2 b7 e8 ⊢;obtain⟨B,hB⟩:=nm (w.heap.size);have h8:=lh b7;have d4:=lh (d1.out W1 b7);rw [hB] at h0 h1 h2 e8 ⊢;rw [show B+1+1=B+2 from rfl];obtain⟨b0,b1,b2,b3,b4⟩:=qc5 h0;obtain⟨l0,l1,l2,l3,l4⟩:=qc5 h1;have e9:=lh h0;have f4:=lh h2;clear h0 h1 h2 b7 d1;unfold yDq at d4;go_upto_region 2 with (go_at_call 46;refine d4.out.mono ?_;rintro e w2 ⟨b,rfl,d6,j6,L⟩);have h9:=lh (h8.out.trans (L.mono (by omega)));have e0:=(L.block B (by omega)).trans e9.out;have E2:=lh ((L.block (B+2) (by omega)).trans f4.out);have j7:B+3≤w2.heap.size:=by have:=L.size;omega
 obtain⟨-,-,-,-,k4⟩:=qc5 e0;have f5:=lh (b6.out b w2 d6);have d5:w2.cell? ⟨b,5,none⟩=some (.int .i64 R.wide):=by obtain⟨_,_,_,_,g1,_,_⟩:=d6;exact g1.cells.2.2.2.2.2
 clear b0 b1 b2 b3 b4 l0 l1 l2 l3 l4 L d4 e9 f4 b6 e0 d6;go_upto_region 4 with (go_at_call 47;refine f5.out.mono ?_;rintro e D ⟨G,c,rfl,d7,b8⟩);have i0:=lh (h9.out.trans (b8.mono (by omega)));have E3:=lh ((b8.block (B+2) (by omega)).trans E2.out);have j8:w2.heap.size≤D.heap.size:=b8.size;have i1:=lh d7;obtain⟨j9,k0,M,N,O,P,_⟩:=yAn hn d7 0 f e6.out;have M:D.cell? ⟨G,0,none⟩=some (.int .i64 f.a):=M;have N:D.cell? ⟨G,1,none⟩=some (.bool f.back):=N;have O:D.cell? ⟨G,2,none⟩=some (.int .i64 (-1)):=O;have P:D.cell? ⟨G,3,none⟩=some (.int .i64 f.x):=P;have i2:=e7.out f (zS e6.out);have k1:(0:Int)<(n:Int):=by omega
 clear k4 d5 b8 d7 f5;go_upto_region 5 with fail;obtain⟨r,f6⟩:=nm (D.heap.size);have b9:=qal D (.cells #[f.a,f.back,.int .i64 (-1),f.x] 91);have c0:=zL D (.cells #[f.a,f.back,.int .i64 (-1),f.x] 91);generalize D.alloc _=W4 at b9 c0 ⊢;rw [f6] at b9 c0 ⊢;have i3:=lh b9;have i4:=lh c0;clear M N O P b9 c0;go_upto_block 0 with fail;go_wp2;go_loopw [13,34] (fun _ u34 wx=>∃(k:Nat) (d:St),k≤n∧u34=.int .i64 k∧wx.heap[r]? = some (.cells #[d.a,d.back,.int .i64 (-1),d.x] 91 (0,0))∧(-1099511627776≤d.x∧d.x≤1099511627776) ∧
  yFy o Q f=yFy o (Q.drop k) d∧Below r D wx) (fun _ u34 _=>n-(intOf u34).toNat)
 case atStart=>exact⟨0,f,zd _,rfl,i4.out,i2,by rw [ZZ],i3.out⟩
 case round =>
  obtain⟨k,d,hk,rfl,d8,f7,f8,T⟩:=hrel;have f9:=lh d8;have g0:=lh f8;have HB:=lh T;have k2:r<wr.heap.size:=(zH.1 d8).1;clear f8 d8;by_cases i5:k<n
  ·obtain⟨q,hq⟩:∃q,Q[k]? = some q:=⟨_,zF (by omega)⟩;have g2:=e7.out q (zS hq);have g3:Q.drop k=q::Q.drop (k+1):=yAu hq;have g4:yFy o Q f=yFy o (Q.drop (k+1)) (if yEz q.x o<yEz d.x o then q else d):=(by rw [g0.out,g3,yFy]);have c1:=lh g4;obtain⟨_,_,M,N,O,P,_⟩:=yAn hn (i1.out.keep (f6▸T)) k q hq;have k3:(k:Int)<(n:Int):=(by omega);have k5:IntKind.i64.wrap ((k:Int)+1)=(k:Int)+1:=(by rw [ZH];omega);clear g4 g3 T hq;go_upto_region 8 with fail;have U:=qal wr (.cells #[q.a,q.back,.int .i64 (-1),q.x] 91);have c2:=zL wr (.cells #[q.a,q.back,.int .i64 (-1),q.x] 91);generalize wr.alloc _=W7 at U c2 ⊢;obtain⟨sb,i6⟩:=nm (wr.heap.size);rw [i6] at U c2 ⊢;have c3:=(U.block r (by omega)).trans f9.out;have g5:=lh (HB.out.trans (U.mono (by omega)));obtain⟨z0,z1,z2,V⟩:=qc4 c2;obtain⟨y0,y1,y2,Y⟩:=qc4 c3;have Z:∀j,W7.frozen? ⟨r,j,none⟩=false:=fun j=>fz c3;have f0:=Z 0;have f1:=Z 1;have f2:=Z 2;have f3:=Z 3;have g6:=lh c3;have g7:=lh (fun W=>gap_any q.x o g2 (by omega) W);have g8:=lh (fun W=>gap_any d.x o f7 (by omega) W);clear M N O P U c2 c3 Z;obtain⟨S,d9,e1⟩:∃S:World→Prop,(∀W:World,W.cell? ⟨sb,3,none⟩=some (.int .i64 q.x)→W.cell? ⟨r,3,none⟩=some (.int .i64 d.x)→S W)∧(∀W:World,S W→W.cell? ⟨sb,3,none⟩=some (.int .i64 q.x)∧W.cell? ⟨r,3,none⟩=some (.int .i64 d.x)):=⟨fun W=>W.cell? ⟨sb,3,none⟩=some (.int .i64 q.x)∧W.cell? ⟨r,3,none⟩=some (.int .i64 d.x),fun _ h h'=>⟨h,h'⟩,fun _ h=>h⟩;have c4:=lh d9;have i7:Nonempty (WIn S):=⟨⟨_,d9 _ V Y⟩⟩;have i9:∀F:WIn S,F.w.cell? ⟨sb,3,none⟩=some (.int .i64 q.x):=fun F=>(e1 _ F.h).1;have j0:∀F:WIn S,F.w.cell? ⟨r,3,none⟩=some (.int .i64 d.x):=fun F=>(e1 _ F.h).2;clear d9 e1;refine yBo S [([0,1,2,4,5,6],3),([],7)] [8] (by kernel_rfl) (by kernel_rfl) (c4.out _ V Y) ?_;simp only [yIb,yS,zD,zE,zC,zB,zA];show wpQuiet _ _ _ _ [_,_,_,_,_,_] _
   repeat (go_big_quiet_step (fail))
   refine Zt ?_;intro K hK;have a4:=lh hK;clear hK;show wpList _ _ _ [_] _ _;go_wp2_with (go_at_call 51;refine (g7.out _).mono ?_;rintro e w8 ⟨rfl,rfl⟩);refine a4.out _ _ (c4.out _ V Y) ?_;clear a4;show wpQuiet _ _ _ _ [] _;refine Zt ?_;intro K hK;have a4:=lh hK;clear hK;show wpList _ _ _ [_] _ _;go_wp2_with (go_at_call 51;refine (g8.out _).mono ?_;rintro e w8 ⟨rfl,rfl⟩);refine a4.out _ _ (c4.out _ V Y) ?_;clear a4 g7 g8;show wpQuiet _ _ _ _ [_] _
   repeat (go_big_quiet_step (fail))
   refine Zt ?_;refine NoPanic.normal ?_;clear i9 j0 i7 c4;by_cases c5:yEz q.x o<yEz d.x o
   ·have j1:decide (yEz q.x o<yEz d.x o)=true:=zQ c5;rw [Zg c5] at c1;have g9:=yM (i:=3) (yM (i:=2) (yM (i:=1) (yM (i:=0) g6.out (.int .i64 q.a)) (.bool q.back)) (.int .i64 (-1))) (.int .i64 q.x);have h3:((((W7.setCell ⟨r,0,none⟩ (.int .i64 q.a)).setCell ⟨r,1,none⟩ (.bool q.back)).setCell ⟨r,2,none⟩ (.int .i64 (-1))).setCell ⟨r,3,none⟩ (.int .i64 q.x)).heap[r]? = some (.cells #[q.a,q.back,.int .i64 (-1),q.x] 91 (0,0)):=g9;have E:∀{X:World} (j:Nat) (v:Value),Below r D X→Below r D (X.setCell ⟨r,j,none⟩ v):=fun j v hX=>hX.setCell (p:=⟨r,j,none⟩) (zT _) v;have a5:=E 3 (.int .i64 q.x) (E 2 (.int .i64 (-1)) (E 1 (.bool q.back) (E 0 (.int .i64 q.a) g5.out)));have j2:=lh h3;have e2:=lh a5;clear g9 h3 E a5;go_wp2;go_roundw
    case rel=>exact⟨k+1,q,by omega,by go_num,j2.out,g2,c1.out,e2.out.drew⟩
    case measure=>simp [intOf];omega
   ·have j1:decide (yEz q.x o<yEz d.x o)=false:=zP c5;rw [Zf c5] at c1;clear z0 z1 z2 V y0 y1 y2 Y f0 f1 f2 f3;go_wp2;go_roundw
    case rel=>exact⟨k+1,d,by omega,by go_num,g6.out,f7,c1.out,g5.out.drew⟩
    case measure=>simp [intOf];omega
  ·obtain rfl:k=n:=(by omega);have h4:yFy o Q f=d:=(by rw [g0.out,ql (by omega)];rfl);have h5:=f9.out;obtain⟨y0,y1,y2⟩:=qc3 h5;have H:=(T.block (B+2) (by omega)).trans E3.out;obtain⟨z0,z1,z2⟩:=qc3 H;have f0:wr.frozen? ⟨B+2,0,none⟩=false:=fz H;have f1:wr.frozen? ⟨B+2,1,none⟩=false:=fz H;have f2:wr.frozen? ⟨B+2,2,none⟩=false:=fz H;have E:∀{X:World} (j:Nat) (v:Value),Below B w X→Below B w (X.setCell ⟨B+2,j,none⟩ v):=fun j v hX=>hX.setCell (p:=⟨B+2,j,none⟩) (show B≤B+2 by omega) v;have h6:Below B w wr:=hB▸i0.out.trans (HB.out.mono (by omega));have a5:=E 2 (.int .i64 (-1)) (E 1 (.bool d.back) (E 0 (.int .i64 d.a) h6));have e2:=lh a5;have j3:=lh h4;have h7:(((wr.setCell ⟨B+2,0,none⟩ (.int .i64 d.a)).setCell ⟨B+2,1,none⟩ (.bool d.back)).setCell ⟨B+2,2,none⟩ (.int .i64 (-1))).heap[B+2]? = some (.cells #[d.a,d.back,.int .i64 (-1)] 33 (0,0)) :=
    yM (i:=2) (yM (i:=1) (yM (i:=0) H (.int .i64 d.a)) (.bool d.back)) (.int .i64 (-1))
   have j4:=lh h7;clear h5 H E h6 a5 h4 T i5 h7;go_wp2;refine qC (JT (ty:=33) rfl _ _ (B+2) _ _ _ _ rfl j4.out caret_under rfl caret_size) rfl ⟨by rw [j3.out],?_⟩;rw [hB];exact e2.out
theorem yGc {w:World} {base n c:Nat} {a:Option Addr} {l:List St} (d:l.length=n) (e:yN caE 33 w base (.slice a n c) l) (i:Nat) (x:St) (f:l[i]? = some x) :
 ∃G,a=some ⟨G,0,none⟩∧w.cell? ⟨G,i*3,none⟩=some (.int .i64 x.a)∧w.cell? ⟨G,i*3+1,none⟩=some (.bool x.back)∧w.cell? ⟨G,i*3+2,none⟩=some (.int .i64 (-1)):=by
 subst d;obtain⟨G,g,_,_,b,_⟩:=e.at i x f;exact⟨G,g,b 0 _ rfl,b 1 _ rfl,b 2 _ rfl⟩
end
section
theorem set_getD (l:List Nat) (i j v:Nat):(l.set i v).getD j 0=v∨(l.set i v).getD j 0=l.getD j 0:=by
 rw [zI,zI,ZP];by_cases h:i=j
 ·subst h;by_cases a:i<l.length
  ·left;simp [a]
  ·right;rw [Zg rfl,Zf a,qD (by omega)]
 ·right;rw [Zf h]
theorem set_same (l:List Nat) (i v:Nat):(l.set i v).getD i 0=v∨(l.set i v).getD i 0=0:=by
 rw [zI,ZP,Zg rfl];by_cases a:i<l.length
 ·left;simp [a]
 ·right;rw [Zf a];rfl
theorem hangF_le (cs:List Int) (base fr:Nat) (c:base≤126):∀(i:Nat) (h:Bool) (a:List Nat),(∀j,i≤j→a.getD j 0≤126)→∀j,(yIq cs base fr i h a).getD j 0≤126
 | 0,h,a,ho,j=>ho j (zd _)
 | i+1,h,a,ho,j=>by
   rw [yIq];refine hangF_le cs base fr c i _ _ (fun q b=>?_) j;have d:∀l:List Nat,(∀q,i+1≤q→l.getD q 0≤126)→∀v,v≤126→∀q,i≤q→(l.set i v).getD q 0≤126:=fun l g v k q b=>by
    by_cases e:i=q
    ·subst e;rcases set_same l i v with h | h <;> omega
    ·rcases set_getD l i q v with h | h
     ·omega
     ·have:=g q (by omega);omega
   have f:=d a ho (min (a.getD i 0) 126) (by omega);split
   ·exact d _ (fun q b=>f q (by omega)) base c q b
   ·exact f q b
theorem row_le {cs:List Int} {b:List Nat} {base:Nat} {fr c:Int} {a:List Nat} (h:rowI cs b base fr c=some a):∀j,a.getD j 0≤126:=by
 unfold rowI at h;dsimp only at h;split at h
 ·cases h
 ·have:=zu h;subst this;refine hangF_le _ _ _ (by omega) _ _ _ (fun j d=>?_);rw [zI,qD (by rw [za];omega)];exact zd _
theorem own_le (s:ByteArray) (a:Int) (fr m:Nat):∀j,(yNh s a fr m).getD j 0≤126:=fun j=>by
 unfold yNh;cases h:rowI (yE s) (yAx (yE s) a).1 (yAx (yE s) a).2.toNat (yE (s.extract 0 fr)).length ((yE (s.extract 0 fr)).length+m:Nat) with
 | none=>simp
 | some out=>exact row_le h j
theorem found_lv0:∀(l:List (Nat × ByteArray)) (n:Nat),∀p∈findF l n,p.level=0
 | [],n,p,a=>by cases a
 | q::t,n,p,a=>by
   rw [findF] at a;rcases zX.1 a with rfl | a
   ·rfl
   ·exact found_lv0 t _ p a
theorem yK3 (s:ByteArray) (c:Int) (f g:Bool) (a d:Int):∀p∈lay2 s c f g a d,p.level<256:=fun p e=>by
 unfold lay2 at e;obtain⟨q,b,rfl⟩:=ZG.1 e;show q.level<256;unfold yFv at b;split at b
 ·have:=found_lv0 _ _ q b;omega
 ·obtain⟨r,j,rfl⟩:=ZG.1 b;obtain⟨o,h⟩:=nm (yNh s c (ym s a) (yEu (yAo s (ym s a) (yk s a d))));have i:=own_le s c (ym s a) (yEu (yAo s (ym s a) (yk s a d))) r.c0;rw [h] at i ⊢;show o.getD r.c0 0<256;omega
end
section
open Go.RowKit Go.Proofs Go.Shelf
attribute [local go_sem] qV
theorem cellsF_le (L:List Pc) (h:∀p∈L,0≤p.wide∧p.wide≤19):∀o:List Int,(yKo L o).length≤19*o.length
 | []=>zT _
 | i::t=>by
   have b:=cellsF_le L h t;rw [yKo,zJ,zb];have c:(if 0<(L.getD i.toNat default).wide then cellsP (L.getD i.toNat default) else []).length≤19:=by
    split
    ·rw [yQ3,zI];by_cases a:i.toNat<L.length
     ·rw [zF a];have:=h _ (ZJ a);simp only [Option.getD_some];omega
     ·rw [qD (by omega)];decide
    ·exact zd _
   omega
theorem cells_le (s:ByteArray) (d a:Int) (e b c:Bool) (ra rl rw:Int) (f:s.size≤2097152):(yQo (layI s d a e b c ra rl rw)).length≤39845888:=by
 have g:=cellsF_le (layL s d a e b c ra rl rw) (layL_bd s d a e b c ra rl rw) (laySeen s a b c ra rl);have h:(laySeen s a b c ra rl).length=(layL s d a e b c ra rl rw).length:=by unfold laySeen;rw [yJj,zK,yLn]
 have i:=yH7 s d a e b c ra rl rw f;have j:(yQo (layI s d a e b c ra rl rw)).length=(yKo (layL s d a e b c ra rl rw) (laySeen s a b c ra rl)).length:=rfl;omega
theorem yA3 (s:ByteArray) (p:s.size≤2097152) (d e:Int) (f g i:Bool) (ra rl rw fin:Int) :
 ∃(Q:List St) (n m:Nat) (o:Int→Bool→Int) (k:Int→St),stopsI (layI s d e f g i ra rl rw) fin=Q∧Q.length=n∧(yQo (layI s d e f g i ra rl rw)).length=m∧(∀c b,yEk (layI s d e f g i ra rl rw) c b=o c b)∧(∀x,yHo (layI s d e f g i ra rl rw) fin x=k x) ∧
   1≤n∧n≤8388608∧m≤39845888∧(∀j∈Q,o (j.a:Int) j.back=j.x∧0≤j.x∧j.x≤m)∧yBg Q∧(∀x:Int,0≤x→x≤m→k x∈Q∧∀j∈Q,yEz (k x).x x≤yEz j.x x)∧(∀j∈Q,o ((k j.x).a:Int) (k j.x).back=j.x) ∧
   (rawS (layI s d e f g i ra rl rw) fin).length≤8388608∧0<(rawS (layI s d e f g i ra rl rw) fin).length∧yAe (rawS (layI s d e f g i ra rl rw) fin)∧yAe (stopsI (layI s d e f g i ra rl rw) fin):=by
 obtain⟨u,q,v,J,w,y⟩:=yCe s d e f g i ra rl rw fin _ rfl;have z:=yH7 s d e f g i ra rl rw p;have A:=cells_le s d e f g i ra rl rw p;have B:(rawS (layI s d e f g i ra rl rw) fin).length≤8388608:=by
  unfold rawS;have C:=yPk (layI s d e f g i ra rl rw) (yDm fin) (layI s d e f g i ra rl rw).l 0;have D:(layI s d e f g i ra rl rw).l.length≤2097152:=z;omega
 have K:(stopsI (layI s d e f g i ra rl rw) fin).length=(rawS (layI s d e f g i ra rl rw) fin).length:=by rw [yEi,yo]
 have E:0<(stopsI (layI s d e f g i ra rl rw) fin).length:=by
  cases h:stopsI (layI s d e f g i ra rl rw) fin with
  | nil=>exact qF h u
  | cons a t=>simp
 have r:yAe (stopsI (layI s d e f g i ra rl rw) fin):=fun j h=>by have:=(q j h).2;omega
 have F:yAe (rawS (layI s d e f g i ra rl rw) fin):=fun j h=>r j (by rw [yEi];exact (yCy _ j).2 h);refine⟨_,_,_,fun c b=>yEk (layI s d e f g i ra rl rw) c b,fun x=>yHo (layI s d e f g i ra rl rw) fin x,rfl,rfl,rfl,fun _ _=>rfl,fun _=>rfl,E,by omega,A,fun j h=>?_,v,fun x C D=>?_,y,B,by omega,F,r⟩
 ·have:=q j h;exact⟨this.1,this.2.1,by omega⟩
 ·obtain⟨G,H⟩:=w x;refine⟨G,fun j h=>?_⟩;have:=H j h;have I:min (max x 0) (layI s d e f g i ra rl rw).wide=x:=(by omega);rw [I] at this;exact this
def rwF (f a n B:Nat) (ds:List Deferred) (u:Nat→Value):Act :=
 {tmps:=#[.pointer (some ⟨f,0,none⟩),u 1,.pointer (some ⟨B,0,none⟩),.pointer (some ⟨B+1,0,none⟩),.pointer (some ⟨B+2,0,none⟩),.int .i8 0,.pointer (some ⟨B+3,0,none⟩),.pointer (some ⟨B+4,0,none⟩),.pointer (some ⟨B+5,0,none⟩),.pointer (some ⟨B+6,0,none⟩),u 10,u 11,u 12,u 13,u 14,u 15,u 16,u 17,u 18,u 19,u 20,u 21,u 22,u 23,u 24,u 25,u 26,u 27,u 28,u 29,u 30,u 31,u 32,u 33,u 34,u 35,u 36,u 37,u 38,u 39,u 40,u 41,u 42,u 43,u 44,u 45,u 46,u 47,u 48,u 49,u 50,u 51,u 52,u 53,u 54,u 55,u 56,u 57,u 58,u 59,u 60,u 61,u 62,u 63,u 64,u 65,u 66,u 67,u 68,u 69,u 70,u 71,u 72,u 73,u 74,u 75,u 76,u 77,u 78,u 79,u 80,u 81,u 82,u 83,u 84,u 85,u 86,u 87,u 88,u 89,u 90,u 91,u 92,u 93,u 94,u 95,u 96,u 97,u 98,u 99,u 100,u 101,u 102,u 103,u 104,u 105,u 106,u 107,u 108,u 109,u 110,u 111,u 112,u 113,u 114,u 115,u 116,u 117,u 118,u 119,u 120,u 121,u 122,u 123,u 124,u 125,u 126,u 127,u 128,u 129,u 130,u 131,u 132,u 133,u 134,u 135,u 136,u 137,u 138,u 139,u 140,u 141,u 142,u 143,u 144,u 145,u 146,u 147],defers:=ds }
theorem rwF.mk {f a n B:Nat} {b:List Deferred} (x:Act) (h:x=rwF f a n B b (fun i=>x.tmps.getD i undef)):∃u,x=rwF f a n B b u:=⟨_,h⟩
theorem yEd {a:Array Value} {W:World} {g:Nat} {cs:Array Value} {u:Value} (b:a.getD 4 undef=.pointer (some ⟨g,0,none⟩)) (c:a.getD 5 undef=u) (d:W.heap[g]? = some (.cells cs 127 (0,0))) (e:cs.size=3) :
 (results Tryz.f62 a).run Tryz.prog W=.ok (.tuple #[.agg cs,u]) W:=by
 have f:=run_loadVar_row (P:=Tryz.prog) W g 127 127 cs (0,0) _ d Tryz.underlying127 rfl (by rw [e];kernel_rfl);rw [results_cell_tmp rfl,b,c];simp only [asAddr,JB,qy,f]
def RwJ (w:World) (B f a n:Nat) (r:Rul) (tail:ByteArray) (x:Act) (W:World):Prop :=
 ∃(D m:Nat) (st:Fl),(∃u,x=rwF f a n B [{ target:=.collected D,args:=#[] }] u)∧B≤D∧W.heap[D]? = some (.deferred (some []))∧RwB W B f a n (0,0,0) st tail∧yAg r ((yF tail).map (·.2)) (fl0 a n)=(st,true) ∧
   m≤(yF tail).length∧FlB a n m tail.size st∧Below B w W
theorem yPs {s:ByteArray} {pre:List (yO s)} {R:List (Nat × ByteArray)} (h:pre.map (·.1)++R=yF s):pre.map (·.1.2)++R.map (·.2)=(yF s).map (·.2):=by
 rw [←h,zW,zx];rfl
def RwI (w:World) (B f a n:Nat) (r:Rul) (tail:ByteArray) (pre:List (yO tail)) (W:World):Prop :=
 ∃st,RwB W B f a n (0,0,0) st tail∧(∀R,yAg r (pre.map (·.1.2)++R) (fl0 a n)=yAg r R st)∧FlB a n pre.length tail.size st∧Below B w W
def RwX (w:World) (B f a n:Nat) (r:Rul) (tail:ByteArray) (c:Code) (pre:List (yO tail)) (W:World):Prop :=
 c=.goto 0∧∃(st:Fl) (m:Nat),RwB W B f a n (0,0,0) st tail∧(∀R,yAg r (pre.map (·.1.2)++R) (fl0 a n)=(st,true))∧m≤pre.length∧FlB a n m tail.size st∧Below B w W
theorem yKu {w W b:World} {B f a n k:Nat} {r:Rul} {tail c:ByteArray} {pre:List (yO tail)} {x:yO tail} {d:Fl} {i:Act} (j:x.1.2=c) (l:pre.length=k)
 (m:∀R,yAg r ((pre.map (·.1.2)++[c])++R) (fl0 a n)=yAg r R (yFz r d c).1) (o:FlB a n (k+1) tail.size (yFz r d c).1) (e:RwB b B f a n (0,0,0) (yFz r d c).1 tail) (p:Below B w W) (g:Below B W b) (q:KeepsOthers W b)
 (s:RwB W B f a n (0,0,0) d tail):ownPostK (KpB (B+7) B) (RwI w B f a n r tail) (RwX w B f a n r tail) (pre++[x]) W .normal i b:=by
 refine⟨q,⟨g,fun v h=>?_⟩,_,e,fun R=>?_,?_,p.trans g⟩
 ·rw [s.cells.2.2.2.2.2.2] at h;cases h;exact e.cells.2.2.2.2.2.2
 ·rw [zW,ZA,j];exact m R
 ·rw [zJ,l];exact o
theorem row_any (f a n:Nat) (i:ByteArray) (wa:Option Addr) (wn wc:Nat) (e:Bool) (r:Rul) (a6:Int) (a7:Bool) (w:World) (hT:T8 w) (hD:DB w) (hf:yGq w f i wa wn wc e r a6 a7) (hw:Rd .i8 w wa r.wh) (q3:r.wh.length=wn)
 (hB:yQ i a n) (t9:(yF i).length≤wn) (hz:i.size≤2097152) (u0:0≤r.w) (f1:r.w≤1024) :
 Calls Tryz.prog 62 #[.pointer (some ⟨f,0,none⟩),.agg #[a,n,.int .i64 0]] w fun en w' =>
  en=.returned (.tuple #[.agg #[.int .i64 (yX r i e a n).1,.int .i64 (yX r i e a n).2.1,.int .i64 (yX r i e a n).2.2.1],.int .i8 (yX r i e a n).2.2.2])∧Below w w w':=by
 obtain⟨B,c5⟩:=nm (w.heap.size);have j4:f<B:=by rw [←c5];exact hf.lt
 obtain⟨tail,f2⟩:∃t,i.extract a i.size=t:=⟨_,rfl⟩;have q4:=yJ i a hB.1;rw [f2] at q4;have q5:a≤i.size:=hB.1;have u1:n+(yF tail).length≤wn:=by have:=hB.len;rw [f2] at this;omega
 have u2:n≤2097152:=by have:=hB.len;have:=yAj i;omega
 refine (qG (n:=4)).1 ?_;refine qI Tryz.func62 rfl trivial ?_ rfl;simp only [Tryz.ntmps62,qW,zb,zn,Nat.reduceAdd,Nat.reduceSub,qX,qY,qZ,qd,zp,zo];gi_wp2;refine wpIn_wide.2 (wp_scope_jumps 0 (RwJ w B f a n r tail) (fun _ _=>0) rfl ?first ?pass)
 case first =>
  refine (wpIn_wide (n:=4)).1 ?_;gi_upto_region 5 with fail;obtain⟨W7,j5⟩:∃X,((((((w.alloc (.cells (rwC f a n (0,0,0) (fl0 a n) tail 0) (rwT 0))).alloc (.cells (rwC f a n (0,0,0) (fl0 a n) tail 1) (rwT 1))).alloc (.cells (rwC f a n (0,0,0) (fl0 a n) tail 2) (rwT 2))).alloc (.cells (rwC f a n (0,0,0) (fl0 a n) tail 3) (rwT 3))).alloc
   (.cells (rwC f a n (0,0,0) (fl0 a n) tail 4) (rwT 4))).alloc (.cells (rwC f a n (0,0,0) (fl0 a n) tail 5) (rwT 5))).alloc (.cells (rwC f a n (0,0,0) (fl0 a n) tail 6) (rwT 6))=X:=⟨_,rfl⟩
  change Code.wpIn _ _ _ _ _ _ (((((((w.alloc (.cells (rwC f a n (0,0,0) (fl0 a n) tail 0) (rwT 0))).alloc (.cells (rwC f a n (0,0,0) (fl0 a n) tail 1) (rwT 1))).alloc (.cells (rwC f a n (0,0,0) (fl0 a n) tail 2) (rwT 2))).alloc (.cells (rwC f a n (0,0,0) (fl0 a n) tail 3) (rwT 3))).alloc
   (.cells (rwC f a n (0,0,0) (fl0 a n) tail 4) (rwT 4))).alloc (.cells (rwC f a n (0,0,0) (fl0 a n) tail 5) (rwT 5))).alloc (.cells (rwC f a n (0,0,0) (fl0 a n) tail 6) (rwT 6)))
  obtain⟨g7,g8⟩:=rw_start w f a n B tail c5;unfold rwW at g7 g8;rw [j5] at g7 g8 ⊢;rw [show B+1+1=B+2 from rfl,show B+2+1=B+3 from rfl,show B+3+1=B+4 from rfl,show B+4+1=B+5 from rfl,show B+5+1=B+6 from rfl];have m8:Below B w W7:=by
   rw [←j5];refine (((((((Zc _ w).alloc (by omega) _).alloc ?_ _).alloc ?_ _).alloc ?_ _).alloc ?_ _).alloc ?_ _).alloc ?_ _ <;> simp only [zM] <;> omega
  have m9:W7.heap.size=B+7:=(by rw [←j5];simp only [zM];omega);have n0:(W7.alloc (.cells (rwC f a n (0,0,0) (fl0 a n) tail 7) (rwT 7))).heap.size=B+8:=(by rw [zM,m9]);have d2:=qal W7 (.cells (rwC f a n (0,0,0) (fl0 a n) tail 7) (rwT 7));obtain⟨r0,r1,r2⟩:=g7.cells;have q0:W7.cell? ⟨B,0,none⟩=some (.pointer (some ⟨f,0,none⟩)):=(d2.cell (p:=⟨B,0,none⟩) (by show B<_;omega)).symm.trans r0;have q1:W7.cell? ⟨B+1,0,none⟩=some (.int .i64 a):=(d2.cell (p:=⟨B+1,0,none⟩) (by show B+1<_;omega)).symm.trans r1;have q2:W7.cell? ⟨f,0,none⟩=some (.string i):=(hf.below m8 j4).cells.1;have n1:T8 (W7.alloc (.cells (rwC f a n (0,0,0) (fl0 a n) tail 7) (rwT 7))):=hT.below c5.symm g8;have hA:=yIy tail;have HA:=lh hA;have n2:=lh g7;have n3:=lh g8;have n4:=lh n1;have HF:=lh hf;have HW:=lh hw;have q6:Tryz.lays197_ren.g 3<B:=(by have:=yD (hT.1 0 (by omega));omega);have q7:Tryz.lays197_ren.g 4<B:=(by have:=yD (hT.2 0 (by omega)).1;omega);have HT:=lh hT;have HD:=lh hD;have u3:(a:Int)≤(i.size:Int):=(by omega);clear hA g7 g8 m8 n1 hf hw hT hD r0 r1 r2 d2;refine wpIn_wide.2 ?_;obtain⟨S,H,a3⟩:∃S:World→Prop,(∀w',S w'→w'.cell? ⟨B,0,none⟩=some (.pointer (some ⟨f,0,none⟩))∧w'.cell? ⟨B+1,0,none⟩=some (.int .i64 a)∧w'.cell? ⟨f,0,none⟩=some (.string i)) ∧
   ∀w',w'.cell? ⟨B,0,none⟩=some (.pointer (some ⟨f,0,none⟩))→w'.cell? ⟨B+1,0,none⟩=some (.int .i64 a)→w'.cell? ⟨f,0,none⟩=some (.string i)→S w' :=
   ⟨fun w'=>w'.cell? ⟨B,0,none⟩=some (.pointer (some ⟨f,0,none⟩))∧w'.cell? ⟨B+1,0,none⟩=some (.int .i64 a)∧w'.cell? ⟨f,0,none⟩=some (.string i),fun _ h=>h,fun _ a b c=>⟨a,b,c⟩⟩
  have c7:∀p:WIn S,p.w.cell? ⟨B,0,none⟩=some (.pointer (some ⟨f,0,none⟩)):=fun p=>(H _ p.h).1;have c8:∀p:WIn S,p.w.cell? ⟨B+1,0,none⟩=some (.int .i64 a):=fun p=>(H _ p.h).2.1;have c9:∀p:WIn S,p.w.cell? ⟨f,0,none⟩=some (.string i):=fun p=>(H _ p.h).2.2;have P:=lh a3;have d0:Nonempty (WIn S):=⟨⟨W7,a3 _ q0 q1 q2⟩⟩;clear H a3;refine yEa S [7] (by kernel_rfl) (by kernel_rfl) (P.out _ q0 q1 q2) ?_;simp only [yHw,Zm,Zj,qp,ZZ]
  repeat (go_big_quiet_step (fail))
  refine Zt ?_;intro K z;have O:=lh z;clear z;go_wp2_with (go_at_call 57;refine (HA.out _).mono ?_;rintro e' W0 ⟨rfl,q8⟩);have d2:=qal W7 (.cells #[tail] 9);refine O.out _ _ (P.out _ (yB d2 (yD q0) q0) (yB d2 (yD q1) q1) (yB d2 (yD q2) q2)) ?_;clear q8 W0 O P c7 c8 c9 d0 d2 q0 q1 q2 HA;refine Zt (NoPanic.normal ?_);have b3:RwB (W7.alloc (.cells #[tail] 9)).drew B f a n (0,0,0) (fl0 a n) tail:=n2.out;have d3:Below B w (W7.alloc (.cells #[tail] 9)).drew:=n3.out.trans (yI (Zc _ _) 1);have k9:T8 (W7.alloc (.cells #[tail] 9)).drew:=n4.out;have n5:(W7.alloc (.cells #[tail] 9)).drew.heap.size=B+8:=n0;generalize (W7.alloc _).drew=W0 at b3 d3 k9 n5 ⊢;clear j5 n2 n3 n4 n0 m9 W7;unfold itV;gi_wp2;have n6:W0.cell? ⟨B+7,0,none⟩=some (.string tail):=b3.cells.2.2.2.2.2.2;refine wpIn_rangeFunc_ownF (F:=Fence.wide) rfl (by omega) (gf:=124) (lb:=#[.pointer (some ⟨B+7,0,none⟩)]) rfl trivial (qJ Tryz.func124 (by kernel_rfl) rfl)
   (yBf 3 (by omega) (B+7) B tail (by omega) q6 q7 W0 (by omega) n6 k9) (fun h k=>KpB.trans h k) (yEy (w:=W0) (by omega)) (Zc _ _) (fun _=>rfl)
   (RwI w B f a n r tail) (RwX w B f a n r tail) ?hI ?hIx ?h0
   (fun x=>{ tmps:=#[.pointer (some ⟨f,0,none⟩),.agg #[.int .i64 a,.int .i64 n,.int .i64 0],.pointer (some ⟨B,0,none⟩),.pointer (some ⟨B+1,0,none⟩),.pointer (some ⟨B+2,0,none⟩),.int .i8 0,.pointer (some ⟨B+3,0,none⟩),.pointer (some ⟨B+4,0,none⟩),.pointer (some ⟨B+5,0,none⟩),.pointer (some ⟨B+6,0,none⟩),undef,.string x.1.2,undef,.pointer (some ⟨B+1,0,none⟩),.int .i64 a,.pointer (some ⟨B+1,1,none⟩),.int .i64 n,.agg #[.int .i64 a,.int .i64 n,.int .i64 0],.agg #[.int .i64 a,.int .i64 n,.int .i64 0],.pointer (some ⟨f,0,none⟩),.pointer (some ⟨f,0,none⟩),.pointer (some ⟨f,0,none⟩),.string i,.pointer (some ⟨B+1,0,none⟩),.int .i64 a,.string tail,.func (.func 124) #[] #[.pointer (some ⟨B+7,0,none⟩)],.int .i64 x.1.1,.string x.1.2,undef,undef,undef,undef,undef,undef,undef,undef,undef,undef,undef,undef,undef,undef,undef,undef,undef,undef,undef,undef,undef,undef,undef,undef,undef,undef,undef,undef,undef,undef,undef,undef,undef,undef,undef,undef,undef,undef,undef,undef,undef,undef,undef,undef,undef,undef,undef,undef,undef,undef,undef,undef,undef,undef,undef,undef,undef,undef,undef,undef,undef,undef,undef,undef,undef,undef,undef,undef,undef,undef,undef,undef,undef,undef,undef,undef,undef,undef,undef,undef,undef,undef,undef,undef,undef,undef,undef,undef,undef,undef,undef,undef,undef,undef,undef,undef,undef,undef,undef,undef,undef,undef,undef,undef,undef,undef,undef,undef,undef,undef,undef,undef,undef,undef,undef,undef,undef,undef,undef],defers:=[] }) ?assign ?body ?done ?stop
  case hI =>
   rintro pre X Y row ⟨d,E,U,h3,V⟩ hg b4;exact⟨d,Blk.kept E hg (fun k e=>(b4 k e).2),U,h3,V.grown hg (by have:=V.size;omega) (fun k e=>by have:=(b4 k e).1;omega)⟩
  case hIx =>
   rintro c pre X Y row ⟨h0,d,m,E,U,hm,h3,V⟩ hg b4;exact⟨h0,d,m,Blk.kept E hg (fun k e=>(b4 k e).2),U,hm,h3,V.grown hg (by have:=V.size;omega) (fun k e=>by have:=(b4 k e).1;omega)⟩
  case h0=>exact⟨_,b3,fun R=>rfl,FlB.start a n _,d3⟩
  case assign =>
   intro l x W K z;gi_wp2;exact z
  case body =>
   rintro l pre x W ⟨d,E,U,h3,V⟩ n7;obtain⟨c,j6⟩:=nm (x.1.2);obtain⟨k,hk⟩:=nm (pre.length);have hx:=x.2;rw [j6] at hx;have j7:c.size≤tail.size:=(by omega);have q9:tail.size≤2097152:=(by omega);simp only [j6];rw [hk] at n7 h3;have n8:=yAj tail;have u4:k<2097152:=(by omega);have g9:Below w w W:=(by rw [c5];exact V);have u5:w.heap.size≤W.heap.size:=g9.size;obtain⟨G,o,n9,u6,o0⟩:=HW.out.at g9 d.n (by rw [q3,h3.1];omega);have r3:d.n=n+k:=h3.1;have u7:d.n<wn:=(by omega);have u8:d.n≤4194304:=(by omega);have u9:d.a≤8796093022208:=by
    have h5:=h3.2.1;have h6:k*tail.size≤2097152*2097152:=Nat.mul_le_mul (by omega) q9;omega
   have v0:0≤d.wide:=h3.2.2.1;have v1:d.wide≤39845888:=(by have:=h3.2.2.2.1;omega);have l0:T8 W:=HT.out.below rfl g9;have o1:DB W:=HD.out.below g9;have o2:=HF.out.below V j4;have j8:=blank_any c W l0;rw [blankB_C] at j8;obtain⟨A,j9⟩:∃y,(yx c d.wide r.tab r.wideA r.raw).2=y:=⟨_,rfl⟩;obtain⟨ts,o3⟩:∃y,(yx c d.wide r.tab r.wideA r.raw).1=y:=⟨_,rfl⟩;have k3:=yGj c d.wide r.tab r.wideA r.raw;have l1:=fun (X:World) (hb:Below W W X)=>text_any c (by omega) d.wide r.tab a6 r.wideA a7 r.raw X (l0.below rfl hb) (o1.below hb);rw [j9] at k3;rw [j9,o3] at l1;obtain⟨d4,l2⟩:∃y,yKg c=y:=⟨_,rfl⟩;rw [l2] at j8;have r4:0≤d.wide+A:=(by omega);have v2:d.wide+A≤9223372036854775807:=(by omega);have o4:0≤A:=k3.1;have o5:A≤19:=k3.2;have o6:yFz r d c=if d4=true∧(d.hangs=true∨r.w<d.wide+A) then (adv r.wh c.size { d with hangs:=true,c:=0 },false)
    else if d.hangs=true∨r.w<d.wide+A then ({ d with c:=A },true) else (adv r.wh c.size { d with c:=A },false):=by
    unfold yFz;rw [j9,l2]
   have o7:=lh o6;have r5:=lh j8;have r6:=lh l1;have H1:=lh E;have H2:=lh U;have H3:=lh h3;have H4:=lh V;have r7:=lh o0;have o8:=lh n9;have o9:=lh o2;have h7:=lh j6;have O:=lh hk;clear o6 j8 l1 E U h3 V g9 o0 n9 o2 j6 hk o3 j9 l2 l0 o1 k3 hx n8 n7 r3 n6 b3 d3 k9 n5;gi_wp2;refine⟨trivial,?_⟩;refine (CallsIn.inRound l (qG.2 r5.out)).mono ?_;rintro e' W1 ⟨rfl,d3⟩;have b3:=H1.out.below d3;have l3:=o9.out.below d3 (by have:=o9.out.lt;omega);obtain⟨ft,fs,fe,fw,f4,f5,f6,f7,f8⟩:=l3.cells;have J:=b3.cells.1;have kw:=b3.now.2.2;have kn:=b3.cells.2.2.2.2.2.1;have fn:=b3.frz 6 0 (by omega);have p0:=lh b3;have l4:=lh l3;have k4:=lh d3;clear b3 l3 d3 ft fs fe fw;gi_upto_region 8 with fail;obtain⟨S,H,a3⟩:∃S:World→Prop,(∀w',S w'→w'.cell? ⟨B+3,2,none⟩=some (.int .i64 d.wide)∧w'.cell? ⟨B,0,none⟩=some (.pointer (some ⟨f,0,none⟩))∧w'.cell? ⟨f,4,none⟩=some (.int .i64 r.tab)∧w'.cell? ⟨f,5,none⟩=some (.bool r.wideA)∧w'.cell? ⟨f,6,none⟩=some (.int .i8 a6)∧w'.cell? ⟨f,7,none⟩=some (.bool a7)∧w'.cell? ⟨f,8,none⟩=some (.bool r.raw))∧∀w',w'.cell? ⟨B+3,2,none⟩=some (.int .i64 d.wide)→w'.cell? ⟨B,0,none⟩=some (.pointer (some ⟨f,0,none⟩))→w'.cell? ⟨f,4,none⟩=some (.int .i64 r.tab)→w'.cell? ⟨f,5,none⟩=some (.bool r.wideA)→w'.cell? ⟨f,6,none⟩=some (.int .i8 a6)→w'.cell? ⟨f,7,none⟩=some (.bool a7)→w'.cell? ⟨f,8,none⟩=some (.bool r.raw)→S w' :=
    ⟨fun w'=>w'.cell? ⟨B+3,2,none⟩=some (.int .i64 d.wide)∧w'.cell? ⟨B,0,none⟩=some (.pointer (some ⟨f,0,none⟩))∧w'.cell? ⟨f,4,none⟩=some (.int .i64 r.tab)∧w'.cell? ⟨f,5,none⟩=some (.bool r.wideA)∧w'.cell? ⟨f,6,none⟩=some (.int .i8 a6)∧w'.cell? ⟨f,7,none⟩=some (.bool a7)∧w'.cell? ⟨f,8,none⟩=some (.bool r.raw),fun _ h=>h,fun _ y0 y1 Q y3 y4 y5 y6=>⟨y0,y1,Q,y3,y4,y5,y6⟩⟩
   have c7:∀p:WIn S,p.w.cell? ⟨B+3,2,none⟩=some (.int .i64 d.wide):=fun p=>(H _ p.h).1;have c8:∀p:WIn S,p.w.cell? ⟨B,0,none⟩=some (.pointer (some ⟨f,0,none⟩)):=fun p=>(H _ p.h).2.1;have c9:∀p:WIn S,p.w.cell? ⟨f,4,none⟩=some (.int .i64 r.tab):=fun p=>(H _ p.h).2.2.1;have h8:∀p:WIn S,p.w.cell? ⟨f,5,none⟩=some (.bool r.wideA):=fun p=>(H _ p.h).2.2.2.1;have r8:∀p:WIn S,p.w.cell? ⟨f,6,none⟩=some (.int .i8 a6):=fun p=>(H _ p.h).2.2.2.2.1;have r9:∀p:WIn S,p.w.cell? ⟨f,7,none⟩=some (.bool a7):=fun p=>(H _ p.h).2.2.2.2.2.1;have s0:∀p:WIn S,p.w.cell? ⟨f,8,none⟩=some (.bool r.raw):=fun p=>(H _ p.h).2.2.2.2.2.2;have P:=lh a3;have d0:Nonempty (WIn S):=⟨⟨W1,a3 _ kw J f4 f5 f6 f7 f8⟩⟩;clear H a3;refine yHq S [7,3] (by kernel_rfl) (by kernel_rfl) (fun _ _ _ _ h=>h) (fun _ _ h=>h) (P.out _ kw J f4 f5 f6 f7 f8) ?_;simp only [yHw,Zm,Zj,qp,ZZ]
   repeat (go_big_quiet_step (fail))
   refine Zt ?_;intro K z;have HK:=lh z;clear z;have h9:=lh (k4.out.trans (yI (Zc W.heap.size W1) 1));go_wp2_with (go_at_call 87;refine (r6.out W1.drew h9.out).mono ?_;rintro e' W2 ⟨rfl,a9⟩);have Z:Below W1 W1 W2:=(yI (Zc _ _) 1).trans a9;refine HK.out _ _ (P.out _ (yB Z (yD kw) kw) (yB Z (yD J) J) (yB Z (yD f4) f4) (yB Z (yD f5) f5) (yB Z (yD f6) f6) (yB Z (yD f7) f7) (yB Z (yD f8) f8)) ?_;clear HK
   repeat (go_big_quiet_step (fail))
   refine Zt ?_;intro K z;have HK:=lh z;clear z;have T:=p0.out.below Z;have p1:=l4.out.below Z (by have:=l4.out.lt;omega);have p2:Below W W W2:=k4.out.trans (Z.mono k4.out.size);have kn:=T.cells.2.2.2.2.2.1;have fn:=T.frz 6 0 (by omega);have d5:=lh T;have i0:=lh p1;have k5:=lh p2;clear a9 Z T p1 p2 h9 p0 l4 k4;go_wp2;have b5:RwB (W2.setCell ⟨B+6,0,none⟩ (.int .i64 A)) B f a n (0,0,0) { d with c:=A } tail:=d5.out.setC A;have d1:yGq (W2.setCell ⟨B+6,0,none⟩ (.int .i64 A)) f i wa wn wc e r a6 a7:=yA i0.out (by omega);have d9:Below B W (W2.setCell ⟨B+6,0,none⟩ (.int .i64 A)):=(k5.out.mono (by omega)).setCell (p:=⟨B+6,0,none⟩) (ZS _ _) _;have e0:KeepsOthers W (W2.setCell ⟨B+6,0,none⟩ (.int .i64 A)):=(yR k5.out).trans (ZT _ _ _);have l5:(W2.setCell ⟨B+6,0,none⟩ (.int .i64 A)).cell? ⟨G,o+d.n,none⟩=some (.int .i8 (yH r.wh d.n)):=(Zw _ _ _ _ (show B+6≠G by omega)).trans (yB k5.out (by omega) r7.out);generalize W2.setCell _ _=W3 at b5 d1 d9 e0 l5 ⊢;refine HK.out _ _ (P.out _ b5.now.2.2 b5.cells.1 d1.cells.2.2.2.2.1 d1.cells.2.2.2.2.2.1 d1.cells.2.2.2.2.2.2.1 d1.cells.2.2.2.2.2.2.2.1 d1.cells.2.2.2.2.2.2.2.2) ?_;clear HK P c7 c8 c9 h8 r8 r9 s0 d0 kn fn kw J f4 f5 f6 f7 f8 d5 i0 k5;refine Zt ?_;have kh:=b5.cells.2.2.2.2.1;have kn:=b5.cells.2.2.2.2.2.1;have kw:=b5.now.2.2;have J:=b5.cells.1;have fw:=d1.cells.2.2.2.1;have fh:=b5.frz 5 0 (by omega);have fn:=b5.frz 6 0 (by omega);dsimp only at kh kn kw;have i1:=lh b5;have c6:=lh d1;have b6:=lh d9;have b7:=lh e0;have k6:=lh l5;clear b5 d1 d9 e0 l5;obtain⟨hg,l6⟩:∃y,d.hangs=y:=⟨_,rfl⟩;have b2:=o7.out;rw [l6] at kh;have i2:=lh l6;clear o7 l6;have s1:((d4=true∧hg=true)∨(d4=true∧hg=false∧r.w<d.wide+A))∨((d4=true∧hg=false∧¬ r.w<d.wide+A)∨(d4=false∧hg=false∧¬ r.w<d.wide+A))∨((d4=false∧hg=true)∨(d4=false∧hg=false∧r.w<d.wide+A)):=by
    cases d4 <;> cases hg <;> by_cases b8:r.w<d.wide+A <;> simp [b8]
   rcases s1 with f1 | f1 | f1
   ·rcases f1 with ⟨rfl,rfl⟩ | ⟨rfl,rfl,b8⟩
    case' inl=>rw [Zg ⟨rfl,.inl i2.out⟩] at b2
    case' inr=>rw [Zg ⟨rfl,.inr b8⟩] at b2
    all_goals
     gi_wp2;refine yv (by kernel_rfl) (by kernel_rfl) (fun _ _ h=>h) ?_
     repeat (go_big_quiet_step (fail))
     refine Zt ?_;intro _ b0;obtain⟨nq,b1⟩:=b0;subst b1;have a8:=lh b2;clear b2;have i3:FlB a n k tail.size { d with hangs:=true,c:=0 }:=⟨H3.out.1,H3.out.2.1,H3.out.2.2.1,H3.out.2.2.2.1,Zr _,by show (0:Int)≤19;omega⟩;gi_upto_region 12 with fail;have L:RwB (((W3.drewN nq).setCell ⟨B+5,0,none⟩ (.bool true)).setCell ⟨B+6,0,none⟩ (.int .i64 0)) B f a n (0,0,0) { d with hangs:=true,c:=0 } tail:=(RwB.setH (W:=W3.drewN nq) i1.out true).setC 0;have e3:yGq (((W3.drewN nq).setCell ⟨B+5,0,none⟩ (.bool true)).setCell ⟨B+6,0,none⟩ (.int .i64 0)) f i wa wn wc e r a6 a7:=yA (yA (show (W3.drewN nq).heap[f]? = _ from c6.out) (by omega)) (by omega);have b9:Below B W (((W3.drewN nq).setCell ⟨B+5,0,none⟩ (.bool true)).setCell ⟨B+6,0,none⟩ (.int .i64 0)):=((yI b6.out nq).setCell (p:=⟨B+5,0,none⟩) (ZS _ _) _).setCell (p:=⟨B+6,0,none⟩) (ZS _ _) _;have e4:KeepsOthers W (((W3.drewN nq).setCell ⟨B+5,0,none⟩ (.bool true)).setCell ⟨B+6,0,none⟩ (.int .i64 0)):=((b7.out.trans (yR (yI (Zc _ _) nq))).trans (ZT _ _ _)).trans (ZT _ _ _);have e5:(((W3.drewN nq).setCell ⟨B+5,0,none⟩ (.bool true)).setCell ⟨B+6,0,none⟩ (.int .i64 0)).cell? ⟨G,o+d.n,none⟩=some (.int .i8 (yH r.wh d.n)):=(Zw _ _ _ _ (show B+6≠G by omega)).trans ((Zw _ _ _ _ (show B+5≠G by omega)).trans k6.out);clear i1 c6 b6 b7 k6 kh kn kw J fw fh fn;generalize ((W3.drewN nq).setCell _ _).setCell _ _=W4 at L e3 b9 e4 e5 ⊢;have M:=L.now.1;have N:=L.now.2.1;have I:=L.now.2.2;have kc:=L.cells.2.2.2.2.2.1;have y0:=L.frz 3 0 (by omega);have Q:=L.frz 3 2 (by omega);dsimp only at M N I kc;have s2:(d.a:Int)+(c.size:Int)≤9223372036854775807:=(by omega);have s3:0≤(d.a:Int)+(c.size:Int):=(by omega);have i4:=lh L;have i5:=lh e3;have i6:=lh b9;have i7:=lh e4;have i9:=lh e5;clear L e3 b9 e4 e5;gi_upto_region 14 with fail;have C:RwB ((W4.setCell ⟨B+3,0,none⟩ (.int .i64 ((d.a:Int)+(c.size:Int)))).setCell ⟨B+3,2,none⟩ (.int .i64 d.wide)) B f a n (0,0,0) { ({ d with hangs:=true,c:=0 }:Fl) with a:=d.a+c.size,wide:=d.wide } tail:=(i4.out.setA (d.a+c.size)).setW (d.wide);have e6:yGq ((W4.setCell ⟨B+3,0,none⟩ (.int .i64 ((d.a:Int)+(c.size:Int)))).setCell ⟨B+3,2,none⟩ (.int .i64 d.wide)) f i wa wn wc e r a6 a7:=yA (yA i5.out (by omega)) (by omega);have c4:Below B W ((W4.setCell ⟨B+3,0,none⟩ (.int .i64 ((d.a:Int)+(c.size:Int)))).setCell ⟨B+3,2,none⟩ (.int .i64 d.wide)):=(i6.out.setCell (p:=⟨B+3,0,none⟩) (ZS _ _) _).setCell (p:=⟨B+3,2,none⟩) (ZS _ _) _;have e7:KeepsOthers W ((W4.setCell ⟨B+3,0,none⟩ (.int .i64 ((d.a:Int)+(c.size:Int)))).setCell ⟨B+3,2,none⟩ (.int .i64 d.wide)):=(i7.out.trans (ZT _ _ _)).trans (ZT _ _ _);have e8:((W4.setCell ⟨B+3,0,none⟩ (.int .i64 ((d.a:Int)+(c.size:Int)))).setCell ⟨B+3,2,none⟩ (.int .i64 d.wide)).cell? ⟨G,o+d.n,none⟩=some (.int .i8 (yH r.wh d.n)):=(Zw _ _ _ _ (show B+3≠G by omega)).trans ((Zw _ _ _ _ (show B+3≠G by omega)).trans i9.out);generalize (W4.setCell _ _).setCell _ _=W5 at C e6 c4 e7 e8 ⊢;clear M N I kc y0 Q i4 i5 i6 i7 i9;obtain⟨M,N,I⟩:=C.now;obtain⟨m0,m1,m2⟩:=C.may;dsimp only at M N I m0 m1 m2;have J:=C.cells.1;have fs:=e6.cells.2.1;rw [o8.out] at fs;have y1:=C.frz 3 1 (by omega);have z0:=C.frz 4 0 (by omega);have z1:=C.frz 4 1 (by omega);have z2:=C.frz 4 2 (by omega);obtain⟨q,hq⟩:=nm (yH r.wh d.n);have l7:=e8;rw [hq] at l7;have j3:=lh C;have d6:=lh c4;have d7:=lh e7;clear C e6 c4 e7 e8;gi_wp2;refine yv (by kernel_rfl) (by kernel_rfl) (fun _ _ h=>h) ?_
     repeat (go_big_quiet_step (fail))
     refine Zt ?_;intro _ b0;obtain⟨nq,b1⟩:=b0;subst b1;by_cases e1:q=1
     ·have e2:(q==1)=true:=(by rw [ZD];exact e1);rw [e1] at hq;have HQ:=lh hq;clear e1 hq;gi_wp2;have a4:=((j3.out.setM (d.a+c.size) (d.n+1) (d.wide)).setK (d.n+1));exact yKu h7.out O.out (yI9 H2.out (by rw [a8.out])) (by rw [a8.out];exact i3.adv r.wh c.size j7) (by rw [a8.out];unfold adv;dsimp only;rw [Zg HQ.out,Zg HQ.out,Zg HQ.out];first | exact a4 | (rw [Int.add_zero];exact a4)) H4.out
       ((((yI d6.out _).setCell (p:=⟨B+4,0,none⟩) (ZS _ _) _).setCell (p:=⟨B+4,1,none⟩) (ZS _ _) _).setCell (p:=⟨B+4,2,none⟩) (ZS _ _) _ |>.setCell (p:=⟨B+3,1,none⟩) (ZS _ _) _)
       (((((d7.out.trans (yR (yI (Zc _ _) _))).trans (ZT _ _ _)).trans (ZT _ _ _)).trans (ZT _ _ _)).trans (ZT _ _ _)) H1.out
     ·have e2:(q==1)=false:=(by rw [zN];exact e1);have HQ:=lh (show ¬ yH r.wh d.n=1 by rw [hq];exact e1);clear e1 hq;gi_wp2;have a4:=RwB.setK (W:=W5.drewN nq) j3.out (d.n+1);exact yKu h7.out O.out (yI9 H2.out (by rw [a8.out])) (by rw [a8.out];exact i3.adv r.wh c.size j7) (by rw [a8.out];unfold adv;dsimp only;rw [Zf HQ.out,Zf HQ.out,Zf HQ.out];first | exact a4 | (rw [Int.add_zero];exact a4)) H4.out
       ((yI d6.out _).setCell (p:=⟨B+3,1,none⟩) (ZS _ _) _)
       ((d7.out.trans (yR (yI (Zc _ _) _))).trans (ZT _ _ _)) H1.out
   ·rcases f1 with ⟨rfl,rfl,b8⟩ | ⟨rfl,rfl,b8⟩
    case' inl=>rw [Zf (fun h=>h.2.elim (fun h=>by rw [i2.out] at h;cases h) b8),Zf (fun h=>h.elim (fun h=>by rw [i2.out] at h;cases h) b8)] at b2
    case' inr=>rw [Zf (fun h=>by cases h.1),Zf (fun h=>h.elim (fun h=>by rw [i2.out] at h;cases h) b8)] at b2
    all_goals
     have v3:decide (r.w<d.wide+A)=false:=zP b8;gi_wp2;refine yv (by kernel_rfl) (by kernel_rfl) (fun _ _ h=>h) ?_
     repeat (go_big_quiet_step (fail))
     refine Zt ?_;intro _ b0;obtain⟨nq,b1⟩:=b0;subst b1;gi_wp2;refine yv (by kernel_rfl) (by kernel_rfl) (fun _ _ h=>h) ?_
     repeat (go_big_quiet_step (fail))
     refine Zt ?_;intro _ b0;obtain⟨nr,b1⟩:=b0;subst b1;have a8:=lh b2;clear b2;have i3:FlB a n k tail.size { d with c:=A }:=⟨H3.out.1,H3.out.2.1,H3.out.2.2.1,H3.out.2.2.2.1,o4,o5⟩;gi_upto_region 12 with fail;have L:RwB ((W3.drewN nq).drewN nr) B f a n (0,0,0) { d with c:=A } tail:=i1.out;have e3:yGq ((W3.drewN nq).drewN nr) f i wa wn wc e r a6 a7:=c6.out;have b9:Below B W ((W3.drewN nq).drewN nr):=b6.out.trans (yI (yI (Zc _ _) _) _);have e4:KeepsOthers W ((W3.drewN nq).drewN nr):=b7.out.trans (yR (yI (yI (Zc _ _) _) _));have e5:((W3.drewN nq).drewN nr).cell? ⟨G,o+d.n,none⟩=some (.int .i8 (yH r.wh d.n)):=k6.out;clear i1 c6 b6 b7 k6 kh kn kw J fw fh fn;generalize (W3.drewN nq).drewN nr=W4 at L e3 b9 e4 e5 ⊢;have M:=L.now.1;have N:=L.now.2.1;have I:=L.now.2.2;have kc:=L.cells.2.2.2.2.2.1;have y0:=L.frz 3 0 (by omega);have Q:=L.frz 3 2 (by omega);dsimp only at M N I kc;have s2:(d.a:Int)+(c.size:Int)≤9223372036854775807:=(by omega);have s3:0≤(d.a:Int)+(c.size:Int):=(by omega);have i4:=lh L;have i5:=lh e3;have i6:=lh b9;have i7:=lh e4;have i9:=lh e5;clear L e3 b9 e4 e5;gi_upto_region 14 with fail;have C:RwB ((W4.setCell ⟨B+3,0,none⟩ (.int .i64 ((d.a:Int)+(c.size:Int)))).setCell ⟨B+3,2,none⟩ (.int .i64 (d.wide+A))) B f a n (0,0,0) { ({ d with c:=A }:Fl) with a:=d.a+c.size,wide:=(d.wide+A) } tail:=(i4.out.setA (d.a+c.size)).setW ((d.wide+A));have e6:yGq ((W4.setCell ⟨B+3,0,none⟩ (.int .i64 ((d.a:Int)+(c.size:Int)))).setCell ⟨B+3,2,none⟩ (.int .i64 (d.wide+A))) f i wa wn wc e r a6 a7:=yA (yA i5.out (by omega)) (by omega);have c4:Below B W ((W4.setCell ⟨B+3,0,none⟩ (.int .i64 ((d.a:Int)+(c.size:Int)))).setCell ⟨B+3,2,none⟩ (.int .i64 (d.wide+A))):=(i6.out.setCell (p:=⟨B+3,0,none⟩) (ZS _ _) _).setCell (p:=⟨B+3,2,none⟩) (ZS _ _) _;have e7:KeepsOthers W ((W4.setCell ⟨B+3,0,none⟩ (.int .i64 ((d.a:Int)+(c.size:Int)))).setCell ⟨B+3,2,none⟩ (.int .i64 (d.wide+A))):=(i7.out.trans (ZT _ _ _)).trans (ZT _ _ _);have e8:((W4.setCell ⟨B+3,0,none⟩ (.int .i64 ((d.a:Int)+(c.size:Int)))).setCell ⟨B+3,2,none⟩ (.int .i64 (d.wide+A))).cell? ⟨G,o+d.n,none⟩=some (.int .i8 (yH r.wh d.n)):=(Zw _ _ _ _ (show B+3≠G by omega)).trans ((Zw _ _ _ _ (show B+3≠G by omega)).trans i9.out);generalize (W4.setCell _ _).setCell _ _=W5 at C e6 c4 e7 e8 ⊢;clear M N I kc y0 Q i4 i5 i6 i7 i9;obtain⟨M,N,I⟩:=C.now;obtain⟨m0,m1,m2⟩:=C.may;dsimp only at M N I m0 m1 m2;have J:=C.cells.1;have fs:=e6.cells.2.1;rw [o8.out] at fs;have y1:=C.frz 3 1 (by omega);have z0:=C.frz 4 0 (by omega);have z1:=C.frz 4 1 (by omega);have z2:=C.frz 4 2 (by omega);obtain⟨q,hq⟩:=nm (yH r.wh d.n);have l7:=e8;rw [hq] at l7;have j3:=lh C;have d6:=lh c4;have d7:=lh e7;clear C e6 c4 e7 e8;gi_wp2;refine yv (by kernel_rfl) (by kernel_rfl) (fun _ _ h=>h) ?_
     repeat (go_big_quiet_step (fail))
     refine Zt ?_;intro _ b0;obtain⟨nq,b1⟩:=b0;subst b1;by_cases e1:q=1
     ·have e2:(q==1)=true:=(by rw [ZD];exact e1);rw [e1] at hq;have HQ:=lh hq;clear e1 hq;gi_wp2;have a4:=((j3.out.setM (d.a+c.size) (d.n+1) ((d.wide+A))).setK (d.n+1));exact yKu h7.out O.out (yI9 H2.out (by rw [a8.out])) (by rw [a8.out];exact i3.adv r.wh c.size j7) (by rw [a8.out];unfold adv;dsimp only;rw [Zg HQ.out,Zg HQ.out,Zg HQ.out];first | exact a4 | (rw [Int.add_zero];exact a4)) H4.out
       ((((yI d6.out _).setCell (p:=⟨B+4,0,none⟩) (ZS _ _) _).setCell (p:=⟨B+4,1,none⟩) (ZS _ _) _).setCell (p:=⟨B+4,2,none⟩) (ZS _ _) _ |>.setCell (p:=⟨B+3,1,none⟩) (ZS _ _) _)
       (((((d7.out.trans (yR (yI (Zc _ _) _))).trans (ZT _ _ _)).trans (ZT _ _ _)).trans (ZT _ _ _)).trans (ZT _ _ _)) H1.out
     ·have e2:(q==1)=false:=(by rw [zN];exact e1);have HQ:=lh (show ¬ yH r.wh d.n=1 by rw [hq];exact e1);clear e1 hq;gi_wp2;have a4:=RwB.setK (W:=W5.drewN nq) j3.out (d.n+1);exact yKu h7.out O.out (yI9 H2.out (by rw [a8.out])) (by rw [a8.out];exact i3.adv r.wh c.size j7) (by rw [a8.out];unfold adv;dsimp only;rw [Zf HQ.out,Zf HQ.out,Zf HQ.out];first | exact a4 | (rw [Int.add_zero];exact a4)) H4.out
       ((yI d6.out _).setCell (p:=⟨B+3,1,none⟩) (ZS _ _) _)
       ((d7.out.trans (yR (yI (Zc _ _) _))).trans (ZT _ _ _)) H1.out
   ·rcases f1 with ⟨rfl,rfl⟩ | ⟨rfl,rfl,b8⟩
    case' inl=>rw [Zf (fun h=>by cases h.1),Zg (.inl i2.out)] at b2
    case' inr=>rw [Zf (fun h=>by cases h.1),Zg (.inr b8)] at b2
    all_goals
     gi_wp2;refine yv (by kernel_rfl) (by kernel_rfl) (fun _ _ h=>h) ?_
     repeat (go_big_quiet_step (fail))
     refine Zt ?_;intro _ b0;obtain⟨nq,b1⟩:=b0;subst b1;gi_wp2;refine yv (by kernel_rfl) (by kernel_rfl) (fun _ _ h=>h) ?_
     repeat (go_big_quiet_step (fail))
     refine Zt ?_;intro _ b0;obtain⟨nr,b1⟩:=b0;subst b1;have a8:=lh b2;clear b2;have p3:RwX w B f a n r tail (.goto 0) (pre++[x]) ((W3.drewN nq).drewN nr):=by
      refine⟨rfl,{ d with c:=A },k,i1.out,fun R=>?_,by rw [zJ,O.out];exact ZS _ _,⟨H3.out.1,H3.out.2.1,H3.out.2.2.1,H3.out.2.2.2.1,o4,o5⟩,H4.out.trans (b6.out.trans (yI (yI (Zc _ _) _) _))⟩;have:=fill_full H2.out (x:=c) (by rw [a8.out]) R;rw [a8.out] at this;rw [zW,ZA,h7.out];exact this
     have s4:=lh p3;have s5:=lh (b7.out.trans (yR (yI (yI (Zc W3.heap.size W3) nq) nr)));clear p3;gi_wp2;refine wpIn_goto ?_;exact And.intro s5.out s4.out
  case done =>
   rintro D xs W hD s6 ⟨d,E,U,h3,V⟩ z;have p4:yAg r ((yF tail).map (·.2)) (fl0 a n)=(d,false):=by
    have:=U [];rw [←yPs (pre:=xs) (R:=[]) (by rw [zq,s6])];exact this
   have b4:yX r i e a n=(d.a,d.n,d.wide,yBc e):=by
    unfold yX;rw [f2,p4]
   obtain⟨M,N,I⟩:=E.now;have J:=E.cells.1;have z0:W.cell? ⟨B+2,0,none⟩=some (.int .i64 0):=Blk.cell E 2 0 (by omega) rfl;have z1:W.cell? ⟨B+2,1,none⟩=some (.int .i64 0):=Blk.cell E 2 1 (by omega) rfl;have z2:W.cell? ⟨B+2,2,none⟩=some (.int .i64 0):=Blk.cell E 2 2 (by omega) rfl;have y0:=E.frz 2 0 (by omega);have y1:=E.frz 2 1 (by omega);have Q:=E.frz 2 2 (by omega);have hL:=last_any f i wa wn wc e r a6 a7;have f3:=lh (HF.out.below V j4);have HL:=lh hL;have e9:=lh b4;have H1:=lh E;have H4:=lh V;have HK:=lh z;clear E U h3 V p4 hL b4 z;gi_upto_region 17 with fail;refine wpIn_wide.2 ?_;obtain⟨S,H,a3⟩:∃S:World→Prop,(∀w',S w'→w'.cell? ⟨B+3,0,none⟩=some (.int .i64 d.a)∧w'.cell? ⟨B+3,1,none⟩=some (.int .i64 d.n)∧w'.cell? ⟨B+3,2,none⟩=some (.int .i64 d.wide)∧w'.cell? ⟨B,0,none⟩=some (.pointer (some ⟨f,0,none⟩)))∧∀w',w'.cell? ⟨B+3,0,none⟩=some (.int .i64 d.a)→w'.cell? ⟨B+3,1,none⟩=some (.int .i64 d.n)→w'.cell? ⟨B+3,2,none⟩=some (.int .i64 d.wide)→w'.cell? ⟨B,0,none⟩=some (.pointer (some ⟨f,0,none⟩))→S w' :=
    ⟨fun w'=>w'.cell? ⟨B+3,0,none⟩=some (.int .i64 d.a)∧w'.cell? ⟨B+3,1,none⟩=some (.int .i64 d.n)∧w'.cell? ⟨B+3,2,none⟩=some (.int .i64 d.wide)∧w'.cell? ⟨B,0,none⟩=some (.pointer (some ⟨f,0,none⟩)),fun _ h=>h,fun _ y0 y1 Q y3=>⟨y0,y1,Q,y3⟩⟩
   have c7:∀p:WIn S,p.w.cell? ⟨B+3,0,none⟩=some (.int .i64 d.a):=fun p=>(H _ p.h).1;have c8:∀p:WIn S,p.w.cell? ⟨B+3,1,none⟩=some (.int .i64 d.n):=fun p=>(H _ p.h).2.1;have c9:∀p:WIn S,p.w.cell? ⟨B+3,2,none⟩=some (.int .i64 d.wide):=fun p=>(H _ p.h).2.2.1;have h8:∀p:WIn S,p.w.cell? ⟨B,0,none⟩=some (.pointer (some ⟨f,0,none⟩)):=fun p=>(H _ p.h).2.2.2;have P:=lh a3;have d0:Nonempty (WIn S):=⟨⟨W,a3 _ M N I J⟩⟩;clear H a3;refine yEa S [2,0] (by kernel_rfl) (by kernel_rfl) (P.out _ M N I J) ?_;simp only [yHw,Zm,Zj,qp,ZZ]
   repeat (go_big_quiet_step (fail))
   refine Zt ?_;intro K z;have O:=lh z;clear z;go_wp2_with (go_at_call 102;refine (HL.out W.drew f3.out).mono ?_;rintro e' w5 ⟨rfl,rfl⟩);refine O.out _ _ (P.out _ M N I J) ?_;refine Zt ?_;clear O;intro K z;have O:=lh z;clear z;go_wp2;have T:RwB (((W.setCell ⟨B+2,0,none⟩ (.int .i64 d.a)).setCell ⟨B+2,1,none⟩ (.int .i64 d.n)).setCell ⟨B+2,2,none⟩ (.int .i64 d.wide)).drew B f a n (d.a,d.n,d.wide) d tail:=H1.out.setR d.a d.n d.wide;have a5:(((W.setCell ⟨B+2,0,none⟩ (.int .i64 d.a)).setCell ⟨B+2,1,none⟩ (.int .i64 d.n)).setCell ⟨B+2,2,none⟩ (.int .i64 d.wide)).drew.heap[D]? = some (.deferred (some [])) :=
    yA (yA (yA HK.out (by omega)) (by omega)) (by omega)
   have a9:Below B w (((W.setCell ⟨B+2,0,none⟩ (.int .i64 d.a)).setCell ⟨B+2,1,none⟩ (.int .i64 d.n)).setCell ⟨B+2,2,none⟩ (.int .i64 d.wide)).drew :=
    (((H4.out.setCell (p:=⟨B+2,0,none⟩) (ZS _ _) _).setCell (p:=⟨B+2,1,none⟩) (ZS _ _) _).setCell (p:=⟨B+2,2,none⟩) (ZS _ _) _).trans (yI (Zc _ _) 1)
   have s7:(((W.setCell ⟨B+2,0,none⟩ (.int .i64 d.a)).setCell ⟨B+2,1,none⟩ (.int .i64 d.n)).setCell ⟨B+2,2,none⟩ (.int .i64 d.wide)).drew.heap.size=W.heap.size:=by
    show (((W.setCell _ _).setCell _ _).setCell _ _).heap.size=_;simp only [World.size_setCell]
   generalize (((W.setCell _ _).setCell _ _).setCell _ _).drew=W6 at T a5 a9 s7 ⊢;refine O.out _ _ (P.out _ T.now.1 T.now.2.1 T.now.2.2 T.cells.1) ?_;clear O c7 c8 c9 h8 P d0 M N I J z0 z1 z2 y0 y1 Q
   repeat (go_big_quiet_step (fail))
   refine Zt (NoPanic.normal ?_);have c0:W6.cell? ⟨B+2,0,none⟩=some (.int .i64 d.a):=Blk.cell T 2 0 (by omega) rfl;have c1:W6.cell? ⟨B+2,1,none⟩=some (.int .i64 d.n):=Blk.cell T 2 1 (by omega) rfl;have c2:W6.cell? ⟨B+2,2,none⟩=some (.int .i64 d.wide):=Blk.cell T 2 2 (by omega) rfl;have f9:=lh a5;have k7:=lh a9;have d5:=lh T;clear a5 a9 T;gi_wp2;change bodyPostM _ _ _ _ _ .ret _ W6;refine⟨by simp,.inl ⟨_,_,rfl,Zv f9.out,?_⟩⟩;refine⟨_,yEd rfl rfl (Blk.kept d5.out (qE W6 D (.deferred none)) (fun r e=>by cases e;exact⟨_,f9.out,rfl⟩) 2 (by omega)) rfl,?_,?_⟩
   ·rw [e9.out];rfl
   ·rw [c5];exact k7.out.trans (JY (w:=W0) (by omega) W6 D _ _ hD f9.out rfl rfl)
  case stop =>
   rintro D c pre W hD s8 ⟨rfl,d,m,E,U,hm,h3,V⟩ z;refine wpIn_goto ?_;show 0=0∧RwJ w B f a n r tail _ W;refine⟨rfl,?_⟩;obtain⟨R,hR⟩:=s8;have n8:pre.length≤(yF tail).length:=(by rw [←hR,zJ,zK];omega);exact⟨D,m,d,rwF.mk _ rfl,by omega,z,E,by rw [←yPs hR];exact U _,by omega,h3,V⟩
 case pass =>
  rintro x W ⟨D,m,d,⟨u,rfl⟩,v4,z,E,U,hm,h3,V⟩;obtain⟨s9,t0,g0,g1,g2,g3,g4,g5,g6,_⟩:=yMj r i a _ (fl0 a n) rfl hB hB (zT _) (zT _) (zT _);rw [show (fl0 a n).a=a from rfl,←yFp i a q5,f2,U] at g0;obtain⟨rfl,rfl⟩:d=s9∧true=t0:=(by cases g0;exact⟨rfl,rfl⟩);have g6:=g6 rfl;have b4:yX r i e a n=if a<d.ma then (d.ma,d.mn,d.mw,2) else if a<d.a then (d.a,d.n,d.wide,3)
   else (d.a+nextI (i.extract d.a i.size),d.n+1,d.c,if d.a+nextI (i.extract d.a i.size)=i.size then yBc e else 3):=by
   unfold yX;rw [f2,U]
  have t1:D<W.heap.size:=(zH.1 z).1;have p5:∀j,j<8→B+j≠D:=fun j hj e'=>by
   have:=E j hj;rw [e',z] at this;cases this
  have v5:B+2≠D:=p5 2 (by omega);have v6:B+3≠D:=p5 3 (by omega);obtain⟨M,N,I⟩:=E.now;obtain⟨j0,j1,j2⟩:=E.may;obtain⟨J,a0,a1,a2,kh,kc,kt⟩:=E.cells;have z0:W.cell? ⟨B+2,0,none⟩=some (.int .i64 0):=Blk.cell E 2 0 (by omega) rfl;have z1:W.cell? ⟨B+2,1,none⟩=some (.int .i64 0):=Blk.cell E 2 1 (by omega) rfl;have z2:W.cell? ⟨B+2,2,none⟩=some (.int .i64 0):=Blk.cell E 2 2 (by omega) rfl;have y0:=E.frz 2 0 (by omega);have y1:=E.frz 2 1 (by omega);have Q:=E.frz 2 2 (by omega);have H1:=lh E;have H4:=lh V;have HK:=lh z;have e9:=lh b4;have f3:=lh (hf.below V j4);have p6:=lh (fun (s:ByteArray) (hs:s.size≤9223372036854775807) (X:World) (hb:Below B w X)=>yId s X (hT.below c5.symm hb) hs);clear E V z b4 U g0 f2 hT hD hf hw;unfold rwF;by_cases c1:a<d.ma
  ·have hr:=e9.out;rw [Zg c1] at hr;have HR:=lh hr;clear hr e9;go_wp2;change bodyPostM _ _ _ _ _ .ret _ _;have T:RwB (((W.setCell ⟨B+2,0,none⟩ (.int .i64 d.ma)).setCell ⟨B+2,1,none⟩ (.int .i64 d.mn)).setCell ⟨B+2,2,none⟩ (.int .i64 d.mw)) B f a n (d.ma,d.mn,d.mw) _ tail:=RwB.setR H1.out d.ma d.mn d.mw;have a5:(((W.setCell ⟨B+2,0,none⟩ (.int .i64 d.ma)).setCell ⟨B+2,1,none⟩ (.int .i64 d.mn)).setCell ⟨B+2,2,none⟩ (.int .i64 d.mw)).heap[D]? = some (.deferred (some [])):=yA (yA (yA HK.out (by omega)) (by omega)) (by omega);have a9:Below B w (((W.setCell ⟨B+2,0,none⟩ (.int .i64 d.ma)).setCell ⟨B+2,1,none⟩ (.int .i64 d.mn)).setCell ⟨B+2,2,none⟩ (.int .i64 d.mw)):=((H4.out.setCell (p:=⟨B+2,0,none⟩) (ZS _ _) _).setCell (p:=⟨B+2,1,none⟩) (ZS _ _) _).setCell (p:=⟨B+2,2,none⟩) (ZS _ _) _;refine⟨by simp,.inl ⟨_,_,rfl,Zv a5,?_⟩⟩;refine⟨_,yEd rfl rfl (Blk.kept T (qE _ D (.deferred none)) (fun r e=>by cases e;exact⟨_,a5,rfl⟩) 2 (by omega)) rfl,?_,?_⟩
   ·rw [HR.out];rfl
   ·rw [c5];exact a9.trans (JY (w:=w) (by omega) _ D _ _ (by omega) a5 rfl rfl)
  have f0:=e9.out;rw [Zf c1] at f0;by_cases c2:a<d.a
  ·rw [Zg c2] at f0;have HR:=lh f0;clear f0 e9;go_wp2;change bodyPostM _ _ _ _ _ .ret _ _;have T:RwB (((W.setCell ⟨B+2,0,none⟩ (.int .i64 d.a)).setCell ⟨B+2,1,none⟩ (.int .i64 d.n)).setCell ⟨B+2,2,none⟩ (.int .i64 d.wide)) B f a n (d.a,d.n,d.wide) _ tail:=RwB.setR H1.out d.a d.n d.wide;have a5:(((W.setCell ⟨B+2,0,none⟩ (.int .i64 d.a)).setCell ⟨B+2,1,none⟩ (.int .i64 d.n)).setCell ⟨B+2,2,none⟩ (.int .i64 d.wide)).heap[D]? = some (.deferred (some [])):=yA (yA (yA HK.out (by omega)) (by omega)) (by omega);have a9:Below B w (((W.setCell ⟨B+2,0,none⟩ (.int .i64 d.a)).setCell ⟨B+2,1,none⟩ (.int .i64 d.n)).setCell ⟨B+2,2,none⟩ (.int .i64 d.wide)):=((H4.out.setCell (p:=⟨B+2,0,none⟩) (ZS _ _) _).setCell (p:=⟨B+2,1,none⟩) (ZS _ _) _).setCell (p:=⟨B+2,2,none⟩) (ZS _ _) _;refine⟨by simp,.inl ⟨_,_,rfl,Zv a5,?_⟩⟩;refine⟨_,yEd rfl rfl (Blk.kept T (qE _ D (.deferred none)) (fun r e=>by cases e;exact⟨_,a5,rfl⟩) 2 (by omega)) rfl,?_,?_⟩
   ·rw [HR.out];rfl
   ·rw [c5];exact a9.trans (JY (w:=w) (by omega) _ D _ _ (by omega) a5 rfl rfl)
  ·rw [Zf c2] at f0;have HR:=lh f0;clear f0 e9;obtain⟨q,hq⟩:=nm (nextI (i.extract d.a i.size));have t2:=yY (i.extract d.a i.size) (by rw [yJ i d.a (by omega)];omega);rw [yJ i d.a (by omega),hq] at t2;have hN:=p6.out (i.extract d.a i.size) (by rw [yJ i d.a (by omega)];omega);rw [hq] at hN HR;have HN:=lh hN;have ft:=f3.out.cells.1;have v7:(d.a:Int)≤(i.size:Int):=(by omega);have v8:(0:Int)≤(d.a:Int):=(by omega);clear hN hq p6;go_upto_region 22 with fail;obtain⟨S,H,a3⟩:∃S:World→Prop,(∀w',S w'→w'.cell? ⟨B+3,0,none⟩=some (.int .i64 d.a)∧w'.cell? ⟨B,0,none⟩=some (.pointer (some ⟨f,0,none⟩))∧w'.cell? ⟨f,0,none⟩=some (.string i))∧∀w',w'.cell? ⟨B+3,0,none⟩=some (.int .i64 d.a)→w'.cell? ⟨B,0,none⟩=some (.pointer (some ⟨f,0,none⟩))→w'.cell? ⟨f,0,none⟩=some (.string i)→S w' :=
    ⟨fun w'=>w'.cell? ⟨B+3,0,none⟩=some (.int .i64 d.a)∧w'.cell? ⟨B,0,none⟩=some (.pointer (some ⟨f,0,none⟩))∧w'.cell? ⟨f,0,none⟩=some (.string i),fun _ h=>h,fun _ y0 y1 Q=>⟨y0,y1,Q⟩⟩
   have c7:∀p:WIn S,p.w.cell? ⟨B+3,0,none⟩=some (.int .i64 d.a):=fun p=>(H _ p.h).1;have c8:∀p:WIn S,p.w.cell? ⟨B,0,none⟩=some (.pointer (some ⟨f,0,none⟩)):=fun p=>(H _ p.h).2.1;have c9:∀p:WIn S,p.w.cell? ⟨f,0,none⟩=some (.string i):=fun p=>(H _ p.h).2.2;have P:=lh a3;have d0:Nonempty (WIn S):=⟨⟨W,a3 _ M J ft⟩⟩;clear H a3;have v9:(d.a:Int)+(q:Int)≤2097152:=(by omega);have r4:0≤(d.a:Int)+(q:Int):=(by omega);have p7:Below B w W.drew:=H4.out.trans (yI (Zc _ _) 1);have h9:=lh p7;clear p7;refine yQi S [9] (by kernel_rfl) (by kernel_rfl) (P.out _ M J ft) ?_;simp only [yHw,yAz,nop,yDx,Zm,Zj,qp,ZZ]
   repeat (go_big_quiet_step (fail))
   refine Zt ?_;intro K z;have O:=lh z;clear z;go_wp2_with (go_at_call 80;refine (HN.out W.drew h9.out).mono ?_;rintro e' W2 ⟨rfl,a9⟩);have Z:Below W W W2:=(yI (Zc _ _) 1).trans a9;refine O.out _ _ (P.out _ (yB Z (yD M) M) (yB Z (yD J) J) (yB Z (yD ft) ft)) ?_;clear O
   repeat (go_big_quiet_step (fail))
   refine Zt ?_;change wpList _ _ _ _ _ _;have U:=H1.out.below Z;have p8:yGq W2 f i wa wn wc e r a6 a7:=f3.out.below Z (by have:=f3.out.lt;omega);have a5:W2.heap[D]? = some (.deferred (some [])):=(Z.block D t1).trans HK.out;have p9:=H4.out.trans (Z.mono (by have:=H4.out.size;omega));have t3:=U.now.1;have t4:=U.frz 3 0 (by omega);have H2:=lh U;have i0:=lh p8;have f9:=lh a5;have k7:=lh p9;clear U p8 a5 p9 a9 Z c7 c8 c9 P d0 H1 f3 HK H4 HN h9 M N I j0 j1 j2 J a0 a1 a2 kh kc kt z0 z1 z2 y0 y1 Q ft;go_wp2;refine NoPanic.normal ?_;have d8:RwB (W2.setCell ⟨B+3,0,none⟩ (.int .i64 ((d.a:Int)+(q:Int)))) B f a n (0,0,0) { d with a:=d.a+q } tail:=H2.out.setA (d.a+q);have e0:(W2.setCell ⟨B+3,0,none⟩ (.int .i64 ((d.a:Int)+(q:Int)))).heap[D]? = some (.deferred (some [])):=yA f9.out (by omega);have d9:Below B w (W2.setCell ⟨B+3,0,none⟩ (.int .i64 ((d.a:Int)+(q:Int)))):=k7.out.setCell (p:=⟨B+3,0,none⟩) (ZS _ _) _;have l8:yGq (W2.setCell ⟨B+3,0,none⟩ (.int .i64 ((d.a:Int)+(q:Int)))) f i wa wn wc e r a6 a7:=yA i0.out (by omega);clear H2 f9 k7 i0 t3 t4;generalize W2.setCell _ _=W3 at d8 e0 d9 l8 ⊢;have w0:d.n≤4194304:=(by have:=h3.1;have:=yAj tail;omega);have N:=d8.now.2.1;have I:=d8.now.2.2;have kc:=d8.cells.2.2.2.2.2.1;have y1:=d8.frz 3 1 (by omega);have Q:=d8.frz 3 2 (by omega);have w1:Hid (0≤d.c):=lh h3.2.2.2.2.1;have H3:=lh d8;have b7:=lh e0;have b6:=lh d9;have c6:=lh l8;clear d8 e0 d9 l8;go_upto_region 24 with fail;have L:RwB (W3.setCell ⟨B+3,1,none⟩ (.int .i64 ((d.n:Int)+1))) B f a n (0,0,0) { d with a:=d.a+q,n:=d.n+1 } tail:=H3.out.setK (d.n+1);have l9:(W3.setCell ⟨B+3,1,none⟩ (.int .i64 ((d.n:Int)+1))).heap[D]? = some (.deferred (some [])):=yA b7.out (by omega);have b9:Below B w (W3.setCell ⟨B+3,1,none⟩ (.int .i64 ((d.n:Int)+1))):=b6.out.setCell (p:=⟨B+3,1,none⟩) (ZS _ _) _;have m3:yGq (W3.setCell ⟨B+3,1,none⟩ (.int .i64 ((d.n:Int)+1))) f i wa wn wc e r a6 a7:=yA c6.out (by omega);clear H3 b7 b6 c6 N I kc y1 Q;generalize W3.setCell _ _=W4 at L l9 b9 m3 ⊢;have I:=L.now.2.2;have kc:=L.cells.2.2.2.2.2.1;have N:=I;have Q:=L.frz 3 2 (by omega);have y1:=Q;have H3:=lh L;have b7:=lh l9;have b6:=lh b9;have c6:=lh m3;clear L l9 b9 m3;go_upto_region 25 with fail;have C:RwB (W4.setCell ⟨B+3,2,none⟩ (.int .i64 (d.c))) B f a n (0,0,0) { d with a:=d.a+q,n:=d.n+1,wide:=d.c } tail:=H3.out.setW d.c;have m4:(W4.setCell ⟨B+3,2,none⟩ (.int .i64 (d.c))).heap[D]? = some (.deferred (some [])):=yA b7.out (by omega);have c4:Below B w (W4.setCell ⟨B+3,2,none⟩ (.int .i64 (d.c))):=b6.out.setCell (p:=⟨B+3,2,none⟩) (ZS _ _) _;have k8:yGq (W4.setCell ⟨B+3,2,none⟩ (.int .i64 (d.c))) f i wa wn wc e r a6 a7:=yA c6.out (by omega);clear H3 b7 b6 c6 N I kc y1 Q;generalize W4.setCell _ _=W5 at C m4 c4 k8 ⊢;obtain⟨v,hv⟩:=nm (d.a+q);have w2:v≤i.size:=(by omega);rw [hv] at C HR;obtain⟨M,N,I⟩:=C.now;dsimp only at M N I;have J:=C.cells.1;have ft:=k8.cells.1;have z0:W5.cell? ⟨B+2,0,none⟩=some (.int .i64 0):=Blk.cell C 2 0 (by omega) rfl;have z1:W5.cell? ⟨B+2,1,none⟩=some (.int .i64 0):=Blk.cell C 2 1 (by omega) rfl;have z2:W5.cell? ⟨B+2,2,none⟩=some (.int .i64 0):=Blk.cell C 2 2 (by omega) rfl;have y0:=C.frz 2 0 (by omega);have y1:=C.frz 2 1 (by omega);have Q:=C.frz 2 2 (by omega);have H5:=lh C;have d7:=lh m4;have d6:=lh c4;have t5:=lh k8;have hL:=last_any f i wa wn wc e r a6 a7;have HL:=lh hL;clear C m4 c4 k8 hL;by_cases c3:v=i.size
   ·have hr:=HR.out;rw [Zg c3] at hr;have d5:=lh hr;have t6:((v:Int)==(i.size:Int))=true:=(by rw [ZD,c3]);clear hr HR c3 hv;go_quiet (fail);go_upto_region 26 with fail;obtain⟨S,H,a3⟩:∃S:World→Prop,(∀w',S w'→w'.cell? ⟨B+3,0,none⟩=some (.int .i64 v)∧w'.cell? ⟨B+3,1,none⟩=some (.int .i64 ((d.n+1:Nat):Int))∧w'.cell? ⟨B+3,2,none⟩=some (.int .i64 d.c)∧w'.cell? ⟨B,0,none⟩=some (.pointer (some ⟨f,0,none⟩)))∧∀w',w'.cell? ⟨B+3,0,none⟩=some (.int .i64 v)→w'.cell? ⟨B+3,1,none⟩=some (.int .i64 ((d.n+1:Nat):Int))→w'.cell? ⟨B+3,2,none⟩=some (.int .i64 d.c)→w'.cell? ⟨B,0,none⟩=some (.pointer (some ⟨f,0,none⟩))→S w' :=
     ⟨fun w'=>w'.cell? ⟨B+3,0,none⟩=some (.int .i64 v)∧w'.cell? ⟨B+3,1,none⟩=some (.int .i64 ((d.n+1:Nat):Int))∧w'.cell? ⟨B+3,2,none⟩=some (.int .i64 d.c)∧w'.cell? ⟨B,0,none⟩=some (.pointer (some ⟨f,0,none⟩)),fun _ h=>h,fun _ y0 y1 Q y3=>⟨y0,y1,Q,y3⟩⟩
    have c7:∀p:WIn S,p.w.cell? ⟨B+3,0,none⟩=some (.int .i64 v):=fun p=>(H _ p.h).1;have c8:∀p:WIn S,p.w.cell? ⟨B+3,1,none⟩=some (.int .i64 ((d.n+1:Nat):Int)):=fun p=>(H _ p.h).2.1;have c9:∀p:WIn S,p.w.cell? ⟨B+3,2,none⟩=some (.int .i64 d.c):=fun p=>(H _ p.h).2.2.1;have h8:∀p:WIn S,p.w.cell? ⟨B,0,none⟩=some (.pointer (some ⟨f,0,none⟩)):=fun p=>(H _ p.h).2.2.2;have P:=lh a3;have d0:Nonempty (WIn S):=⟨⟨W5,a3 _ M N I J⟩⟩;clear H a3;refine yEa S [2,0] (by kernel_rfl) (by kernel_rfl) (P.out _ M N I J) ?_;simp only [yHw,Zm,Zj,qp,ZZ]
    repeat (go_big_quiet_step (fail))
    refine Zt ?_;intro K z;have O:=lh z;clear z;go_wp2_with (go_at_call 102;refine (HL.out (W5.drewN nq).drew t5.out).mono ?_;rintro e' w5 ⟨rfl,rfl⟩);refine O.out _ _ (P.out _ M N I J) ?_;refine Zt ?_;clear O;intro K z;have O:=lh z;clear z;go_wp2;have a4:RwB ((((W5.drewN (nq+1)).setCell ⟨B+2,0,none⟩ (.int .i64 (v:Int))).setCell ⟨B+2,1,none⟩ (.int .i64 ((d.n:Int)+1))).setCell ⟨B+2,2,none⟩ (.int .i64 d.c)) B f a n ((v:Int),(d.n:Int)+1,d.c) _ tail:=RwB.setR (W:=W5.drewN (nq+1)) H5.out (v:Int) ((d.n:Int)+1) d.c;have m5:((((W5.drewN (nq+1)).setCell ⟨B+2,0,none⟩ (.int .i64 (v:Int))).setCell ⟨B+2,1,none⟩ (.int .i64 ((d.n:Int)+1))).setCell ⟨B+2,2,none⟩ (.int .i64 d.c)).heap[D]? = some (.deferred (some [])):=yA (yA (yA (show (W5.drewN (nq+1)).heap[D]? = _ from d7.out) (by omega)) (by omega)) (by omega);have m6:Below B w ((((W5.drewN (nq+1)).setCell ⟨B+2,0,none⟩ (.int .i64 (v:Int))).setCell ⟨B+2,1,none⟩ (.int .i64 ((d.n:Int)+1))).setCell ⟨B+2,2,none⟩ (.int .i64 d.c)):=(((yI d6.out _).setCell (p:=⟨B+2,0,none⟩) (ZS _ _) _).setCell (p:=⟨B+2,1,none⟩) (ZS _ _) _).setCell (p:=⟨B+2,2,none⟩) (ZS _ _) _;generalize (((W5.drewN (nq+1)).setCell _ _).setCell _ _).setCell _ _=W6 at a4 m5 m6 ⊢;refine O.out _ _ (P.out _ a4.now.1 a4.now.2.1 a4.now.2.2 a4.cells.1) ?_;clear O c7 c8 c9 h8 P d0 M N I J z0 z1 z2 y0 y1 Q
    repeat (go_big_quiet_step (fail))
    refine Zt (NoPanic.normal ?_);have t7:=lh a4;have m7:=lh m5;have t8:=lh m6;clear a4 m5 m6;go_wp2;change bodyPostM _ _ _ _ _ .ret _ _;refine⟨by simp,.inl ⟨_,_,rfl,Zv m7.out,?_⟩⟩;refine⟨_,yEd rfl rfl (Blk.kept t7.out (qE _ D (.deferred none)) (fun r e=>by cases e;exact⟨_,m7.out,rfl⟩) 2 (by omega)) rfl,?_,?_⟩
    ·rw [d5.out];rfl
    ·rw [c5];exact t8.out.trans (JY (w:=w) (by omega) _ D _ _ (by omega) m7.out rfl rfl)
   ·have hr:=HR.out;rw [Zf c3] at hr;have d5:=lh hr;have t6:((v:Int)==(i.size:Int))=false:=(by rw [zN];omega);clear hr HR;go_quiet (fail);go_wp2;change bodyPostM _ _ _ _ _ .ret _ _;have T:RwB ((((W5.drewN nq).setCell ⟨B+2,0,none⟩ (.int .i64 v)).setCell ⟨B+2,1,none⟩ (.int .i64 ((d.n:Int)+1))).setCell ⟨B+2,2,none⟩ (.int .i64 d.c)) B f a n (v,((d.n:Int)+1),d.c) _ tail:=RwB.setR (W:=W5.drewN nq) H5.out v ((d.n:Int)+1) d.c;have a5:((((W5.drewN nq).setCell ⟨B+2,0,none⟩ (.int .i64 v)).setCell ⟨B+2,1,none⟩ (.int .i64 ((d.n:Int)+1))).setCell ⟨B+2,2,none⟩ (.int .i64 d.c)).heap[D]? = some (.deferred (some [])):=yA (yA (yA (show (W5.drewN nq).heap[D]? = _ from d7.out) (by omega)) (by omega)) (by omega);have a9:Below B w ((((W5.drewN nq).setCell ⟨B+2,0,none⟩ (.int .i64 v)).setCell ⟨B+2,1,none⟩ (.int .i64 ((d.n:Int)+1))).setCell ⟨B+2,2,none⟩ (.int .i64 d.c)):=(((yI d6.out _).setCell (p:=⟨B+2,0,none⟩) (ZS _ _) _).setCell (p:=⟨B+2,1,none⟩) (ZS _ _) _).setCell (p:=⟨B+2,2,none⟩) (ZS _ _) _;refine⟨by simp,.inl ⟨_,_,rfl,Zv a5,?_⟩⟩;refine⟨_,yEd rfl rfl (Blk.kept T (qE _ D (.deferred none)) (fun r e=>by cases e;exact⟨_,a5,rfl⟩) 2 (by omega)) rfl,?_,?_⟩
    ·rw [d5.out];rfl
    ·rw [c5];exact a9.trans (JY (w:=w) (by omega) _ D _ _ (by omega) a5 rfl rfl)
theorem Tryz.info_row:(Tryz.prog.info? 24).map (fun i=>(i.zero,i.size,i.bytes))=some (some (.agg #[.int .i64 0,.int .i64 0,.int .u8 0,.int .i64 0,.int .i8 0]),5,40):=by kernel_rfl
def yF3 (W:World) (base:Nat) (v:Value) (l:List RowV):Prop:=W.ownsRow base 24 5 v l.length (l.flatMap yJy)
theorem yF3.nil (W:World) (base:Nat):yF3 W base (.slice none 0 0) []:=⟨rfl,.inl ⟨rfl,rfl⟩⟩
theorem yF3.rd {W:World} {base cap:Nat} {a:Option Addr} {l:List RowV} (h:yF3 W base (.slice a l.length cap) l):RdR W a l:=by
 cases l with
 | nil=>exact .inl rfl
 | cons x t =>
   obtain⟨G,d,_,e,f⟩:=yB2 h (Nat.succ_pos _);refine .inr ⟨G,0,d,e,fun i r b k v c=>?_⟩;have g:k<5:=(zG.1 c).1;have j:=(zG.1 b).1;rw [Za];exact (f (i*5+k) (by omega)).trans (flat5_get _ i r b k v c)
theorem far_kept {W a:World} {b t c d base e i n:Nat} {x:Array Value} {v:Value} {xs:List Value} (h:W.heap[b]? = some (.cells x t (c,d))) (j:W.ownsRow base e i v n xs) (k:t≠e) (l:W.grownBy a v.ownBlock) :
 a.heap[b]? = some (.cells x t (c,d)):=by
 refine (l.block b (zH.1 h).1 ?_).trans h;rcases j.2 with ⟨rfl,_⟩ | ⟨g,cap,m,rfl,_,f,_⟩
 ·intro e;cases e
 ·intro e;cases e;rw [h] at f;cases f;exact k rfl
theorem yC5 {W:World} {b t:Nat} {x y z:Int} (h:W.heap[b]? = some (.cells #[x,y,z] t (0,0))) :
 W.cell? ⟨b,0,none⟩=some (.int .i64 x)∧W.cell? ⟨b,1,none⟩=some (.int .i64 y)∧W.cell? ⟨b,2,none⟩=some (.int .i64 z)∧∀i,W.frozen? ⟨b,i,none⟩=false :=
 ⟨by simp [World.cell?,h],by simp [World.cell?,h],by simp [World.cell?,h],fun i=>by simp [World.frozen?,h]⟩
theorem rows_snoc {r:Rul} {T:ByteArray} {e:Bool} {L b:List (Nat × Nat × Int × Int)} {f a n:Nat} {q:Nat × Nat × Int × Int} (d:yX r T e a n=q) (h:L++yAm r T e (f+1) a n=b) :
 ((q.2.2.2=2∨q.2.2.2=3)→(L++[(a,q.1-a,q.2.2.1,q.2.2.2)])++yAm r T e f q.1 q.2.1=b)∧(¬ (q.2.2.2=2∨q.2.2.2=3)→L++[(a,q.1-a,q.2.2.1,q.2.2.2)]=b):=by
 rw [yAm,d] at h;constructor
 ·intro c;rw [Zg c] at h;rw [zZ,ZN];exact h
 ·intro c;rw [Zf c] at h;exact h
theorem flat_snoc (l:List RowV) (r:RowV):(l++[r]).flatMap yJy=l.flatMap yJy++yJy r:=by
 rw [zU,zV]
theorem list_new (W:World) (t:Nat) (xs:List Value):∀j u,xs[j]? = some u→(W.alloc (.cells xs.toArray t)).cell? ((⟨W,0,none⟩:Addr).add j)=some u:=fun j u a=>by
 have h:=World.cell?_alloc_mark W xs.toArray t (0,0) j;rw [JK,Za];refine h.trans ?_;simpa using a
theorem rows_more {W:World} {base:Nat} {v:Value} {a:Int} {L:List (Nat × Nat × Int × Int)} {x:Nat × Nat × Int × Int} {c:Int} (b:c=((x.2.1:Nat):Int)) (h:W.ownsRow base 24 5 v (L.length+1) ((L.map (yNv a)).flatMap yJy++[.int .i64 x.1,.int .i64 c,.int .u8 a,.int .i64 x.2.2.1,.int .i8 x.2.2.2])) :
 yF3 W base v ((L++[x]).map (yNv a)):=by
 subst b;unfold yF3;rw [zK,zJ,zW,ZA,flat_snoc];exact h
theorem spot_set {W:World} {b base n:Nat} {v:Value} {xs:List Value} {x y z:Value} (h:W.heap[b]? = some (.cells #[x,y,z] 127 (0,0))) (e:W.ownsRow base 24 5 v n xs) (a c d:Value) :
 (((W.setCell ⟨b,0,none⟩ a).setCell ⟨b,1,none⟩ c).setCell ⟨b,2,none⟩ d).heap[b]? = some (.cells #[a,c,d] 127 (0,0))∧(((W.setCell ⟨b,0,none⟩ a).setCell ⟨b,1,none⟩ c).setCell ⟨b,2,none⟩ d).ownsRow base 24 5 v n xs:=by
 have f:=yM (i:=0) h a;have g:=yM (i:=1) f c;have l:=yM (i:=2) g d;have j:=yp (i:=0) (u:=a) e (yA8 e h (by decide));have k:=yp (i:=1) (u:=c) j (yA8 j f (by decide));exact⟨l,yp (i:=2) (u:=d) k (yA8 k g (by decide))⟩
theorem own_lowR {W:World} {base base':Nat} {v:Value} {l m:List RowV} (h:yF3 W base v l) (e:l=m) (a:base'≤base):yF3 W base' v m:=e▸yq h a
def lenOf:Value→Nat
 | .slice _ n _=>n
 | _=>0
theorem Rows_any (d:ByteArray) (o r m:Int) (s I l:Bool) (w:World) (hT:T8 w) (hD:DB w) :
 Calls Tryz.prog 21 #[d,o,yEq r m s I l] w fun e w' =>
  ∃pa cap,e=.returned (.slice pa (rowsI d o r m s l).length cap)∧yF3 w' w.heap.size (.slice pa (rowsI d o r m s l).length cap) (rowsI d o r m s l)∧Below w w w':=by
 obtain⟨i5,j7,j8,j9,J⟩:=info_parts (Tryz.info_row);obtain⟨X,j⟩:=nm (rowsI d o r m s l);rw [j];unfold rowsI at j;have V:=lh j;clear j;have Y:=qal w (.cells #[r,s,.int .i8 m,I,l] 26);have a5:(w.alloc (.cells #[r,s,.int .i8 m,I,l] 26)).heap[w.heap.size]? = some (.cells #[r,s,.int .i8 m,I,l] 26 (0,0)):=zL w _;have b8:=hT.below rfl Y;have b9:=hD.below Y;go_enter Tryz.func21,Tryz.ntmps21;go_upto_region 1 with fail;generalize w.alloc _=W0 at Y a5 b8 b9 ⊢;obtain⟨l0,l1,l2,l3,l4⟩:=qc5 a5;have a6:w.heap.size<W0.heap.size:=(zH.1 a5).1;have Z:=lh Y;have c0:=lh b8;have d8:=lh b9;clear Y a5 b8 b9 hT hD;by_cases g1:o<1
 ·have j:=V.out;rw [Zg (.inl g1)] at j;subst j;go_wp2;go_ret;exact⟨none,0,rfl,yF3.nil _ _,Z.out⟩
 by_cases g2:o > 1024
 ·have j:=V.out;rw [Zg (.inr (.inl g2))] at j;subst j;go_wp2;go_ret;exact⟨none,0,rfl,yF3.nil _ _,Z.out⟩
 by_cases g3:(d.size:Int) > 65536
 ·have j:=V.out;rw [Zg (.inr (.inr (by omega)))] at j;subst j;go_wp2;go_ret;exact⟨none,0,rfl,yF3.nil _ _,Z.out⟩
 have j:=V.out;rw [Zf (by rintro (h | h | h) <;> omega)] at j;have d9:=lh j;clear j V;have HC:=lh (counted_any d (by omega) o r m s I l W0 c0.out);go_upto_region 4 with (go_at_call 59;refine HC.out.mono ?_;rintro e w1 ⟨F,wa,wk,rfl,hF,a7,e0,D⟩);have m0:=yB D a6 l0;have m2:=yB D a6 l2;have m4:=yB D a6 l4;have f0:=a7.cells.1;have e3:Below w w w1:=Z.out.trans (D.mono (by omega));have e4:w.heap.size<w1.heap.size:=zl a6 D.size;have e5:=c0.out.below rfl D;have e6:=d8.out.below D;have m3:(yU d).size≤65536:=by have:=(yCz d).1;omega
 have c1:=a7.lt;have a0:=lh e3;have e7:=lh e5;have e8:=lh e6;have e9:=lh a7;have f1:=lh e0;clear l0 l1 l2 l3 l4 D e3 e5 e6 a7 e0 Z c0 d8 HC;obtain⟨y,z⟩:=nm (yMv (yU d) m l);have a1:=lh z;have f2:Hid (∀(W:World),Below w1 w1 W→Calls Tryz.prog 61 #[.string (yU d)] W fun e w'=>∃a c,e=.returned (.slice a (yE (yU d)).length c)∧Rd .i32 w' a (yE (yU d))∧(yE (yU d)).length≤c∧c≤9223372036854775807∧Below w1 w1 w') :=
  lh (fun W E=>(Runes_any (yU d) (by omega) W).mono fun e w' ⟨a,c,h1,h2,h3,h4,h5⟩=>⟨a,c,h1,h2,h3,h4,E.trans (h5.mono E.size)⟩)
 have f3:Hid (∀(a:Option Addr) (n c:Nat) (W:World),Below w1 w1 W→(yE (yU d)).length=n→Rd .i32 W a (yE (yU d))→n≤c→c≤9223372036854775807 →
  Calls Tryz.prog 60 #[.slice a n c,.int .i8 m] W fun e w'=>∃la lc,e=.returned (.tuple #[.slice la n lc,.int .u8 (yAx (yE (yU d)) m).2])∧Below w1 w1 w') :=
  lh (fun a n c W E hl h1 h2 h3=>(yNo a (yE (yU d)) n c m W hl h1 (by have:=yG2 (yU d);omega) h2 h3).mono fun e w' ⟨la,lc,h1,_,_,h4⟩=>⟨la,lc,h1,E.trans (h4.mono E.size)⟩)
 clear z;have HK:=lh (fun (W:World) (E:Below w1 w1 W)=>(⟨yB E e4 m2,yB E c1 f0⟩:W.cell? ⟨w,2,none⟩=some (.int .i8 m)∧W.cell? ⟨F,0,none⟩=some (.string (yU d))));go_upto_if 30 with fail;go_cut [8] (fun v wx=>v=.int .u8 y∧Below w1 w1 wx)
 case first =>
  have z:=a1.out;unfold yMv at z;cases l with
  | true =>
    rw [Zg rfl] at z;subst z;clear a1;go_wp2;go_meet;exact⟨rfl,Zc _ _⟩
  | false =>
    rw [Zf (by decide)] at z;have k0:=lh z;clear z a1;go_wp2
    go_region_held3 (fun w'=>w'.cell? ⟨w,2,none⟩=some (.int .i8 m)∧w'.cell? ⟨F,0,none⟩=some (.string (yU d))∧Below w1 w1 w')
     ((refine (fun hh=>⟨(HK.out _ hh).1,(HK.out _ hh).2,hh⟩) ?_;repeat (first | assumption | exact Zc _ _ | refine Below.drew ?_)))
     (first | (go_at_call 61;refine (f2.out _ (by repeat (first | assumption | exact Zc _ _ | refine Below.drew ?_))).mono ?_;rintro e w2 ⟨a,c,rfl,k1,k2,k3,m5⟩) | (go_at_call 60;refine (f3.out _ _ _ _ (by repeat (first | assumption | exact Zc _ _ | refine Below.drew ?_)) rfl k1 k2 k3).mono ?_;rintro e w3 ⟨la,lc,rfl,k4⟩))
    go_wp2;go_meet;exact⟨by rw [←k0.out],k4⟩
 case rest =>
  obtain⟨rfl,G⟩:=hcut;have f4:=e7.out.below rfl G;have f5:=e8.out.below G;have f6:=e9.out.below G c1;have f7:=f1.out.below G;have f8:=a0.out.trans (G.mono (by omega));have k5:F<wc.heap.size:=zl c1 G.size;have m6:w.heap.size<wc.heap.size:=zl e4 G.size;have f9:=lh f4;have g0:=lh f5;have g4:=lh f6;have g5:=lh f7;have g6:=lh f8;clear f4 f5 f6 f7 f8 G m0 m2 m4 f0 e7 e8 e9 f1 a0 f2 f3 HK;go_upto_block 0 with fail;have H:=(Zc wc.heap.size wc).alloc (zT _) (.cells #[.int .i64 0,.int .i64 0,.int .i64 0] 127);have hx:=zL wc (.cells #[.int .i64 0,.int .i64 0,.int .i64 0] 127);generalize wc.alloc _=W3 at H hx ⊢;obtain⟨c2,a8⟩:=nm (yAm (yN9 d o r s l) (yU d) (yBz d).isSome ((yU d).size+1) 0 0);have m7:c2.length≤65537:=by
   have:=yI0 (yN9 d o r s l) (yU d) (yBz d).isSome ((yU d).size+1) 0 0 (yQ.zero _);rw [a8] at this;omega
  have g7:c2.map (yNv y)=X:=(by rw [←a8,←a1.out];exact d9.out);have k6:=lh g7;have k7:=lh a8;have a9:=lh H;have g8:=lh hx;clear g7 a8 H hx d9 a1;go_wp2;go_loopw [9,10] (fun u9 u10 wx=>∃(a n f b:Nat) (L:List (Nat × Nat × Int × Int)),wc.heap.size≤b∧u10=.pointer (some ⟨b,0,none⟩)∧wx.heap[b]? = some (.cells #[a,n,.int .i64 0] 127 (0,0))∧yF3 wx wc.heap.size u9 (L.map (yNv y)) ∧
   yQ (yU d) a n∧(yU d).size<a+f∧L++yAm (yN9 d o r s l) (yU d) (yBz d).isSome f a n=c2∧Below wc wc wx) (fun u9 _ _=>65538-lenOf u9)
  case atStart=>exact⟨0,0,_,_,[],zT _,rfl,g8.out,yF3.nil _ _,yQ.zero _,zl (Zn _) (Nat.le_add_left _ 0),k7.out,a9.out⟩
  case round =>
   obtain⟨a,n,f,b,L,N,rfl,H,g9,b0,hf,c3,K⟩:=hrel;obtain⟨f,rfl⟩:∃g,f=g+1:=⟨f-1,by have:=b0.1;omega⟩;have m8:L.length<65537:=by
    have:=Zb List.length c3;rw [zJ,yAm,zb] at this;omega
   have c4:wr.ownsRow wc.heap.size 24 5 u9 L.length ((L.map (yNv y)).flatMap yJy):=by
    have h:=g9;unfold yF3 at h
    rwa [zK] at h
   obtain⟨pa,cap,k8,_,_⟩:=yP c4;subst k8;obtain⟨q,O⟩:=nm (yX (yN9 d o r s l) (yU d) (yBz d).isSome a n);have b5:=row_any F a n (yU d) wa (ye d).length wk (yBz d).isSome (yN9 d o r s l) m I wr (f9.out.below rfl K) (g0.out.below K) (g4.out.below K k5) (g5.out.below K) rfl b0 (textOf_len d) (by omega) (by show 0≤o;omega) (by show o≤1024;omega);rw [O] at b5;obtain⟨b1,b2,b3,b4⟩:=yI8 (yN9 d o r s l) (yU d) (yBz d).isSome a n b0;rw [O] at b1 b2 b3 b4;obtain⟨s1,s2⟩:=rows_snoc O c3;have k9:=b1.1;obtain⟨i,qn,t,u⟩:=q;dsimp only at b5 b1 b2 b3 b4 s1 s2 k9;obtain⟨x0,x1,x2,xf⟩:=yC5 H;have h0:=(zH.1 H).1;have l5:=K.size;have h6:=lh b5;have a9:=lh H;have h8:=lh c4;have h9:=lh K;have a0:=lh b1;have c5:=lh b3;have c6:=lh b4;have c7:=lh s1;have c8:=lh s2;clear b5 H g9 c4 K b1 b3 b4 s1 s2 O c3 b0 g4 g5 f9 g0 g8;go_upto_region 10 with (go_at_call 62;refine h6.out.mono ?_;rintro e w4 ⟨rfl,b6⟩);have J:Below wr wr (w4.alloc (.cells #[i,qn,t] 127)):=b6.alloc b6.size _;have hy:=zL w4 (.cells #[i,qn,t] 127);have l6:=b6.size;generalize w4.alloc _=W5 at J hy ⊢;have c9:W5.heap[b]? = some (.cells #[a,n,.int .i64 0] 127 (0,0)):=(J.block b h0).trans a9.out;have i0:=yCq h8.out J;have d0:=h9.out.trans (J.mono l5);obtain⟨P,Q,R,S⟩:=yC5 c9;obtain⟨y0,y1,y2,yf⟩:=yC5 hy;have l7:=d0.size;have i1:(i:Int)-(a:Int)=((i-a:Nat):Int):=(by omega);have l8:=lh i1;have d1:=lh c9;have HY:=lh hy;have d2:=lh i0;have i2:=lh d0;clear b6 J hy c9 i0 d0 i1 x0 x1 x2 xf h0 a9 h8 h9 h6 l6;go_upto_region 11 with (at_builtin;refine Zy _ rfl _ _ 43 rfl wc.heap.size 24 i5 (.agg #[.int .i64 0,.int .i64 0,.int .u8 0,.int .i64 0,.int .i8 0]) 5 40 Tryz.underlying43 j7 j8 j9 J rfl (by decide) _ L.length _ rfl (d2.out.alloc _) ⟨W5,0,none⟩ 1 1 [a,.int .i64 ((i:Int)-a),.int .u8 y,t,.int .i8 u] rfl rfl (list_new _ _ _) (by simp [Value.oneCell']) (by unfold maxLen;omega) (by omega) (by simp;omega) ?_;intro v' w6 ho hg _ hl);have i3:=i2.out.alloc l7 (.cells #[a,.int .i64 ((i:Int)-a),.int .u8 y,t,.int .i8 u] 24);have i4:(W5.alloc (.cells #[a,.int .i64 ((i:Int)-a),.int .u8 y,t,.int .i8 u] 24)).heap[b]? = some (.cells #[a,n,.int .i64 0] 127 (0,0)) :=
    (((Zc W5.heap.size W5).alloc (zT _) _).block b (zH.1 d1.out).1).trans d1.out
   have i6:(W5.alloc (.cells #[a,.int .i64 ((i:Int)-a),.int .u8 y,t,.int .i8 u] 24)).heap[w4.heap.size]? = some (.cells #[i,qn,t] 127 (0,0)) :=
    (((Zc W5.heap.size W5).alloc (zT _) _).block _ (zH.1 HY.out).1).trans HY.out
   have b7:=d2.out.alloc (.cells #[a,.int .i64 ((i:Int)-a),.int .u8 y,t,.int .i8 u] 24);have i7:=far_kept i4 b7 (by decide) hg;have i9:=far_kept i6 b7 (by decide) hg;have d3:Below wc wc w6:=i3.grown hg (by simp;omega) (fun k hk=>(b7.lt k hk).1);have j0:=rows_more (x:=(a,i-a,t,u)) l8.out ho;have m9:=d3.size;have a2:=lh i7;have T:=lh d3;have A:=lh j0;have d4:=lh i9;clear i3 i4 i6 b7 i7 i9 d3 j0 ho hg hl d1 HY d2 i2 P Q R S y0 y1 y2 yf;obtain⟨P,Q,R,S⟩:=yC5 a2.out;obtain⟨y0,y1,y2,yf⟩:=yC5 d4.out;by_cases U:u=2∨u=3
   ·have hcut:=c7.out U;have j1:=c5.out U;have HS:=lh hcut;clear hcut c7 c8 c5 c6;have j2:(yU d).size<i+f:=(by omega);rcases U with rfl | rfl
    ·go_upto_region 14 with fail;obtain⟨B,M⟩:=spot_set a2.out A.out (.int .i64 i) (.int .i64 qn) (.int .i64 0);have C:=((T.out.setCell (p:=⟨b,0,none⟩) N (.int .i64 i)).setCell (p:=⟨b,1,none⟩) N (.int .i64 qn)).setCell (p:=⟨b,2,none⟩) N (.int .i64 0);generalize ((w6.setCell _ _).setCell _ _).setCell _ _=W7 at B M C ⊢;have d5:=A;clear P Q R S y0 y1 y2 yf a2 T A d4;obtain⟨P,Q,R,S⟩:=yC5 B;have a3:=C.size;have H7:=lh B;have O7:=lh M;have d6:=lh C;clear B M C;obtain⟨l9,m1⟩:=j1;have a4:(L++[(a,i-a,t,2)]).length=L.length+1:=(by simp);have d7:=lh a4;clear a4;go_wp2;go_roundw
     case rel=>exact⟨i,qn,f,W7.heap.size,_,a3,rfl,zL W7 _,qP O7.out _,a0.out,j2,HS.out,d6.out.alloc a3 _⟩
     case measure =>
      have hv:lenOf v'=L.length+1:=by
       obtain⟨pb,cb,e,_⟩:=yP d5.out;rw [e,zK,d7.out];rfl
      rw [hv];show 65538-(L.length+1)<65538-L.length;omega
    ·go_upto_region 14 with fail;obtain⟨B,M⟩:=spot_set a2.out A.out (.int .i64 i) (.int .i64 qn) (.int .i64 0);have C:=((T.out.setCell (p:=⟨b,0,none⟩) N (.int .i64 i)).setCell (p:=⟨b,1,none⟩) N (.int .i64 qn)).setCell (p:=⟨b,2,none⟩) N (.int .i64 0);generalize ((w6.setCell _ _).setCell _ _).setCell _ _=W7 at B M C ⊢;have d5:=A;clear P Q R S y0 y1 y2 yf a2 T A d4;obtain⟨P,Q,R,S⟩:=yC5 B;have a3:=C.size;have H7:=lh B;have O7:=lh M;have d6:=lh C;clear B M C;obtain⟨l9,m1⟩:=j1;have a4:(L++[(a,i-a,t,3)]).length=L.length+1:=(by simp);have d7:=lh a4;clear a4;go_wp2;go_roundw
     case rel=>exact⟨i,qn,f,W7.heap.size,_,a3,rfl,zL W7 _,qP O7.out _,a0.out,j2,HS.out,d6.out.alloc a3 _⟩
     case measure =>
      have hv:lenOf v'=L.length+1:=by
       obtain⟨pb,cb,e,_⟩:=yP d5.out;rw [e,zK,d7.out];rfl
      rw [hv];show 65538-(L.length+1)<65538-L.length;omega
   ·obtain⟨e1,e2⟩:=c6.out U;have j:(L++[(a,i-a,t,u)]).map (yNv y)=X:=(by rw [c8.out U];exact k6.out);obtain⟨j3,j4,j5,_⟩:=yP A.out;rw [j] at j5;subst j5;have j6:=lh j;clear j U c7 c8 c5 c6;have O:u=0∨u=1:=(by rw [e2];unfold yBc;split <;> simp);clear e1 e2;rcases O with rfl | rfl
    ·go_wp2;go_ret;exact⟨j3,j4,rfl,own_lowR A.out j6.out (by omega),g6.out.trans (T.out.mono (by omega))⟩
    ·go_wp2;go_ret;exact⟨j3,j4,rfl,own_lowR A.out j6.out (by omega),g6.out.trans (T.out.mono (by omega))⟩
end
end Go.Proofs.YtncplikdjcmoeaaGreatDoor
