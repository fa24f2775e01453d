/- Lemmas, part 18: no further condition than each states. -/
import Derived.Test.YtncplikdjcmoeaaGreatDoorQ17
namespace Go.Proofs.YtncplikdjcmoeaaGreatDoor
set_option linter.unusedVariables false
set_option linter.unusedSimpArgs false
set_option maxRecDepth 100000
set_option maxHeartbeats 4000000
section
variable (tab want:Int) (wideA join raw:Bool)
end
section
variable {T:ByteArray} {L:List OneR} (hA:Adj yIa L) (hR:∀x∈L,yBl T x) (tab want:Int) (wideA join raw:Bool)
include hA hR
end
theorem stK_ne (tab want:Int) (wideA join raw:Bool) (x:OneR):stK tab want wideA join raw x≠[]:=by
 obtain⟨b,_⟩:=yCe x.line tab want wideA join raw x.r.a x.r.len x.r.wide x.r.fin _ rfl;unfold stK;exact fun h=>b (List.map_eq_nil_iff.1 h)
section
open Go.RowKit Go.Proofs Go.Shelf
attribute [local go_sem] qV
theorem stK_max (T:ByteArray) (i:T.size≤65536) (b c:Int) (d e f:Bool) (x:OneR) (g:yBl T x):(stK b c d e f x).length≤8388608:=by
 have j:=yA6 g;obtain⟨Q,k,l,m,n,h,o,p,q,s,t,u,_⟩:=yA3 x.line (by omega) b c d e f x.r.a x.r.len x.r.wide x.r.fin;rw [yIe,zK,h];omega
theorem yQ6 (T:ByteArray) (hs:T.size≤65536) (l d:Int) (m f g:Bool) (x:OneR) (U:yBl T x) (w:World) (hT:T8 w) (hD:DB w) :
 Calls Tryz.prog 35 #[.agg #[x.r.a,x.r.len,.int .u8 x.r.level,x.r.wide,.int .i8 x.r.fin,x.at',x.line],.agg #[l,m,.int .i8 d,f,g]] w fun e w'=>∃a c,e=.returned (.slice a (stK l d m f g x).length c) ∧
  yN caE 33 w' w.heap.size (.slice a (stK l d m f g x).length c) (stK l d m f g x)∧Below w w w':=by
 obtain⟨i5,c9,d0,d1,d2⟩:=info_parts (Tryz.info_caret);have b1:=yA6 U;have J:∀s∈stopsI (layI x.line l d m f g x.r.a x.r.len x.r.wide) x.r.fin,s.a≤2097152:=fun s d3=>by
  have v:=(yB3 T l d m f g x U).1 _ (ZG.2 ⟨s,d3,rfl⟩);obtain⟨k1,d4⟩:=v.2.2.1;have h3:s.a+x.at'≤T.size:=d4.1;omega
 have b2:=yIe l d m f g x;rw [b2];obtain⟨r,b,y⟩:=x;obtain⟨F,H,V,K,fin⟩:=r;dsimp only at b1 J ⊢;have b3:y.size≤2097152:=by omega
 obtain⟨Q,n,nc,pf,hf,X,z,ec,d5,d6,f1,f2,f3,F4,F5,F6,F7,g1,g2,g3,g4⟩:=yA3 y b3 l d m f g F H K fin;have b4:=yK3 y d f g F H;have L:=lh (fun (W:World) (h:Below w w W)=>Stops_any y b3 F H V K fin l d m f g W (hT.below rfl h) (hD.below h) b4 g1 g2 g3);unfold yDq at L;rw [X,z] at L;rw [X] at J ⊢;have b5:Q≠[]:=fun e=>by rw [e] at z;simp at z;omega
 have M:=lh z;have g6:n≤8388608:=by omega
 have HQ:=lh b5;have d7:=lh J;have g7:b≤65536:=by omega
 have Y:(Q.map (shS b)).length=n:=by rw [zK];exact z
 rw [Y];have d8:=lh Y;clear hT hD b4 g1 g2 g3 g4 X ec d5 d6 F4 F5 F6 F7 f1 f2 f3 z U b5 b1 J b2 Y;go_enter Tryz.func35,Tryz.ntmps35;go_upto_region 1 with fail;obtain⟨h0,v,N,b6⟩:=yBq w (.cells #[F,H,.int .u8 V,K,.int .i8 fin,b,y] 75) (.cells #[l,m,.int .i8 d,f,g] 26);generalize (w.alloc _).alloc _=W1 at h0 v N b6 ⊢;obtain⟨B,hB⟩:=nm (w.heap.size);have b7:=lh N;have b8:=lh (L.out W1 N);rw [hB] at h0 v b6 ⊢;clear N L;obtain⟨a0,a1,a2,a3,a4,-,a6⟩:=qc7 h0;obtain⟨l0,l1,l2,l3,l4⟩:=qc5 v;have H0:=lh h0;clear h0 v;go_upto_region 2 with (go_at_call 11;refine b8.out.mono ?_;rintro e o ⟨qa,qc,rfl,b9,O⟩);have e0:=(O.block B (by omega)).trans H0.out;have d9:=lh (b7.out.trans (O.mono b7.out.size));have g8:B+2≤o.heap.size:=by have:=O.size;omega
 obtain⟨G,eG,gb,gl,c0⟩:=yLc M.out b9 HQ.out;subst eG;have E0:=lh e0;have e1:=lh c0;clear b9 O b8 H0 a0 a1 a2 a3 a4 a6 l0 l1 l2 l3 l4 e0 c0;go_upto_block 0 with fail;go_wp2;go_loopw [6,7,8] (fun u6 u7 _ wx=>∃(k:Nat) (a:Option Addr) (u:Nat),k≤n∧u7=.int .i64 k∧u6=.slice a k u∧yN caE 33 wx o.heap.size (.slice a ((Q.take k).map (shS b)).length u) ((Q.take k).map (shS b))∧Below o o wx) (fun _ u7 _ _=>n-(intOf u7).toNat)
 case atStart=>exact⟨0,none,0,zd _,by rfl,rfl,yN.nil _ _ _,Zc _ _⟩
 case round =>
  obtain⟨k,a,u,hk,rfl,rfl,hO,A⟩:=hrel;have I:=lh hO;have HB:=lh A;clear hO;by_cases e2:k<n
  ·obtain⟨q,P⟩:∃q,Q[k]? = some q:=⟨_,zF (by have:=M.out;omega)⟩;have R:((Q.take k).map (shS b)).length=k:=(by rw [zK,za];have:=M.out;omega);have e3:(Q.take (k+1)).map (shS b)=(Q.take k).map (shS b)++[shS b q]:=(by rw [yE2 P,zW,ZA]);obtain⟨y0,y1,y2⟩:=(e1.out.same (A.block G gl)).2 k q P;have Z:wr.cell? ⟨B,5,none⟩=some (.int .i64 b):=by
    have:=(A.block B (by omega)).trans E0.out;simp [World.cell?,this]
   have e4:=d7.out q (zS P);obtain⟨t,c1⟩:∃s,q.a+b=s:=⟨_,rfl⟩;have g9:(k:Int)<(n:Int):=(by omega);have h2:IntKind.i64.wrap ((k:Int)+1)=(k:Int)+1:=(by rw [ZH];omega);have h4:IntKind.i64.wrap ((q.a:Int)+(b:Int))=(t:Int):=(by rw [ZH];omega);have e6:o.heap.size≤wr.heap.size:=A.size;have c2:caE.enc (shS b q)=[.int .i64 t,.bool q.back,.int .i64 (-1)]:=(by rw [←c1];rfl);have e7:=lh c2;rw [R] at I;clear P e4 c1 c2;go_upto_region 7 with fail;have D:=qal wr (.cells #[q.a,q.back,.int .i64 (-1)] 33);have E:=zL wr (.cells #[q.a,q.back,.int .i64 (-1)] 33);generalize wr.alloc _=W5 at D E ⊢;obtain⟨C,hC⟩:=nm (wr.heap.size);rw [hC] at E e6
   try rw [hC]
   have z0:=qc1 E;have zf:W5.frozen? ⟨C,0,none⟩=false:=fz E;have z5:W5.cell? ⟨B,5,none⟩=some (.int .i64 b):=yB D (yD Z) Z;have a5:W5.ownsRow o.heap.size 33 3 (.slice a k u) k (((Q.take k).map (shS b)).flatMap caE.enc):=by
    have h:=I.out.keep D;unfold yN at h;rw [R] at h;exact h
   have e8:=a5;have c3:=lh (HB.out.trans (D.mono (by omega)));have e9:=D.size;rw [hC] at e9;have c4:(Value.slice a k u).ownBlock≠some C:=fun e=>by
    have h:=I.out;unfold yN at h;rw [R] at h;have:=(h.lt _ e).2;omega
   have c5:=lh c4;have c6:=lh a5;clear D a5 y0 y1 y2 Z e8 A c4;go_upto_region 8 with fail;have a7:=yF2 W5 C 0 (.int .i64 t);have a8:=yM (i:=0) E (.int .i64 t);have S:=c6.out.kept a7 (.inr c5.out);have a9:=c3.out.setCell (p:=⟨C,0,none⟩) (by show o.heap.size≤C;omega) (.int .i64 t);have f0:=(ZT W5 ⟨C,0,none⟩ (.int .i64 t)).size;generalize W5.setCell _ _=W6 at a7 a8 S a9 f0 ⊢;obtain⟨z0,z1,z2⟩:=qc3 a8;have f4:=lh S;have f5:=lh a9;have f6:=lh (qP S (.cells #[t,q.back,.int .i64 (-1)] 33));clear a7 a8 S a9 c6 c3 c5 z5 zf E;go_wp2_with (at_builtin;refine Zy _ rfl _ _ 27 rfl o.heap.size 33 i5 _ 3 24 Tryz.underlying27 c9 d0 d1 d2 rfl (by decide) _ k _ rfl f6.out ⟨W6,0,none⟩ 1 1 [t,q.back,.int .i64 (-1)] rfl rfl (newS _ _ _) (by simp [Value.oneCell']) (by unfold maxLen;omega) (by omega) (by simp;omega) ?_;intro v' w8 c7 b0 _ _);replace b0:(W6.alloc (.cells #[t,q.back,.int .i64 (-1)] 33)).grownBy w8 (Value.slice a k u).ownBlock:=b0;have f7:=ZW f4.out;have f8:Below o o w8:=(f5.out.alloc (by omega) _).grown b0 (by simp;omega) (fun j hj=>(f7 j hj).1);obtain⟨a',c8,f9,_,_⟩:=yP c7;subst f9;have g0:yN caE 33 w8 o.heap.size (.slice a' ((Q.take (k+1)).map (shS b)).length c8) ((Q.take (k+1)).map (shS b)):=by
    unfold yN;rw [e3,zJ,R,zU,zV,e7.out];exact c7
   go_roundw
   case rel=>exact⟨k+1,a',c8,by omega,by go_num,rfl,g0,f8⟩
   case measure=>simp [intOf];omega
  ·obtain rfl:k=n:=(by omega);have g5:Q.take k=Q:=qU (by have:=M.out;omega);rw [g5] at I;clear A e2;go_wp2;go_ret;exact⟨a,u,rfl,(by have h:=I.out;rw [d8.out] at h;exact h.low (by omega)),d9.out.trans (HB.out.mono (by omega))⟩
section
variable (T:ByteArray) (hs:T.size≤65536) (wd tab want:Int) (wideA join raw:Bool) (L:List OneR) (hL:pageI T wd tab want wideA raw=L) (hn:L.length≤1000000) (i j:Nat) (x:OneR) (hx:L[i]? = some x) (st s:St) (hst:(stK tab want wideA join raw x)[j]? = some st) (cw:Int)
include hs hL hn hx hst
theorem yNe (f:(stK tab want wideA join raw x)[j+1]? = some s) (w:World) (b:T8 w) (c:DB w) :
 Calls Tryz.prog 36 #[T,wd,.agg #[tab,wideA,.int .i8 want,join,raw],.agg #[st.a,st.back,cw]] w fun e w'=>e=.returned (yAy s)∧Below w w w':=by
 subst hL;obtain⟨g,d⟩:=yEb T hs wd tab want wideA raw;obtain⟨m,h⟩:=yG6 g d tab want wideA join raw i j x hx st hst;exact yLz T hs wd tab want wideA join raw st.a cw st.back s hn (fun base k W l b c=>yKs T hs tab want wideA join raw _ (by omega) d st.a cw st.back i j x hx h (yOe T hs wd tab want wideA raw hx _ (by omega)) 1 (j+1) (by omega) s f base k W l b c) w b c
end
end
end Go.Proofs.YtncplikdjcmoeaaGreatDoor
