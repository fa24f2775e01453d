/- Lemmas, part 24: no further condition than each states. -/
import Derived.Test.YtncplikdjcmoeaaGreatDoorQ18
namespace Go.Proofs.YtncplikdjcmoeaaGreatDoor
set_option linter.unusedVariables false
set_option linter.unusedSimpArgs false
set_option maxRecDepth 100000
set_option maxHeartbeats 4000000
section
open Go.RowKit Go.Proofs Go.Shelf
variable {α:Type} (E:Enc α)
theorem flatS_len (l:List α):(l.flatMap E.enc).length=l.length*E.k:=by
 induction l with
 | nil=>simp
 | cons x l ih=>rw [ZK,zJ,ih,zb,E.len,JD];omega
variable {E}
end
section
def atS (l:List St) (k:Int):St:=l.getD k.toNat default
def yHl (x:OneR) (l:List St):St:=if x.r.level % 2=1 then atS l (l.length-1:Int) else atS l 0
theorem yRb {l:List St} {j:Nat} {s:St} (h:l[j]? = some s):atS l j=s:=by unfold atS;rw [ZC];exact getD_some h
section
variable (tab want:Int) (wideA join raw:Bool)
end
section
variable {T:ByteArray} {L:List OneR} (hA:Adj yIa L) (hR:∀x∈L,yBl T x) (tab want:Int) (wideA join raw:Bool)
include hA hR
end
theorem flat_next {α β:Type} (f:α→List β) (a:∀x,f x≠[]):∀(M:List α) (i:Nat) (s t:β),(M.flatMap f)[i]? = some s→(M.flatMap f)[i+1]? = some t →
 ∃(r j:Nat) (x:α),M[r]? = some x∧(f x)[j]? = some s∧((f x)[j+1]? = some t∨(j+1=(f x).length∧∃y,M[r+1]? = some y∧(f y)[0]? = some t))
 | [],i,s,t,h,_=>by simp at h
 | x::M,i,s,t,hs,ht=>by
   rw [ZK] at hs ht;by_cases b:i+1<(f x).length
   ·rw [zt (by omega)] at hs;rw [zt b] at ht;exact⟨0,i,x,rfl,hs,.inl ht⟩
   ·by_cases c:i<(f x).length
    ·rw [zt c] at hs;rw [zr (by omega),show i+1-(f x).length=0 by omega] at ht;cases M with
     | nil=>simp at ht
     | cons y M =>
       rw [ZK] at ht;have:(f y)[0]? = some t:=by
        rw [zt (zj.2 (a y))] at ht;exact ht
       exact⟨0,i,x,rfl,hs,.inr ⟨by omega,y,rfl,this⟩⟩
    ·rw [zr (by omega)] at hs ht;rw [show i+1-(f x).length=i-(f x).length+1 by omega] at ht;obtain⟨r,j,z,d,g,k⟩:=flat_next f a M _ s t hs ht;refine⟨r+1,j,z,by simpa using d,g,k.imp id (fun ⟨e,y,hy,h0⟩=>⟨e,y,by simpa using hy,h0⟩)⟩
end
section
open Go.RowKit Go.Proofs Go.Shelf
attribute [local go_sem] qV
theorem cbegin_any (T:ByteArray) (hs:T.size≤65536) (d f:Int) (g i j:Bool) (L:List OneR) (R:L.length≤1048576) (k:Nat) (x:OneR) (v:L[k]? = some x) (C:yBl T x) (lv:Nat) (D:x.r.level=lv) (a2:lv<256) (base E:Nat) (w:World) (F:yE9 w base E T d f g i j L) (S:T8 w) (U:DB w) :
 Calls Tryz.prog 108 #[.pointer (some ⟨E,0,none⟩),k] w fun e w'=>e=.returned (yAy (yHl x (stK d f g i j x)))∧Below w w w':=by
 have b:=qal w (.cells #[.int .i64 0,false,.int .i64 0] 33);have q:=zL w (.cells #[.int .i64 0,false,.int .i64 0] 33);have t:=lh (yG9 T hs d f g i j L R k x v C base E _ (F.below b) (S.below rfl b) (U.below b));have X:=lh (fun (W:World) (h:Below w w W)=>F.below h);have H:=stK_ne d f g i j x;obtain⟨Q,I⟩:=nm (stK d f g i j x);rw [I] at t H ⊢;obtain⟨m,y⟩:∃m,Q.length=m+1:=⟨Q.length-1,by have:=zj.2 H;omega⟩;have Y:=lh y;rw [y] at t;obtain⟨l,J⟩:∃s,Q[0]? = some s:=⟨_,zF (by omega)⟩;obtain⟨o,K⟩:∃s,Q[m]? = some s:=⟨_,zF (by omega)⟩;have b5:m≤16777216:=by
  obtain⟨Q',n0,nc,pf,hf,eQ,en,ec,b6,b7,f1,f2,f3,_⟩:=yA3 x.line (by have:=yA6 C;omega) d f g i j x.r.a x.r.len x.r.wide x.r.fin;have h:=Zb List.length I;rw [yIe,zK,eQ] at h;omega
 have b8:=yFe lv a2;have Z:yHl x Q=if lv % 2=1 then o else l:=by
  unfold yHl;have h1:(x.r.level % 2=1)↔lv % 2=1:=(by rw [D];omega);rw [y,show (((m+1:Nat):Int)-1)=(m:Int) by omega,yRb K,show (0:Int)=((0:Nat):Int) from rfl,yRb J];simp only [h1]
 rw [Z];clear Z;obtain⟨V,M⟩:=nm ((if lv % 2=1 then o else l));rw [M];have HV:=lh M;clear M;have a3:=lh J;have a4:=lh K;have a5:=(zG.1 v).1;have HX:=lh v;obtain⟨n,N⟩:=nm (L.length);have HN:=lh N;rw [N] at R a5;have b9:(k:Int)<(n:Int):=by omega
 have c0:(m:Int)<(m:Int)+1:=by omega
 have c1:(m:Int)<((m+1:Nat):Int):=by omega
 have c2:IntKind.i64.wrap (((m+1:Nat):Int)-1)=(m:Int):=by rw [ZH];omega
 have c3:IntKind.i64.wrap ((m:Int)+1-1)=(m:Int):=by rw [ZH];omega
 have c4:IntKind.i64.wrap (m:Int)=(m:Int):=by rw [ZH];omega
 have a6:=lh D;clear I F S U C y H J K D v N;go_enter Tryz.func108,Tryz.ntmps108;go_upto_region 1 with fail;generalize w.alloc _=W1 at b q t ⊢;obtain⟨B,u⟩:=nm (w.heap.size);rw [u] at q
 try rw [u]
 have a7:B<W1.heap.size:=(zH.1 q).1;go_upto_region 2 with (go_at_call 73;refine t.out.mono ?_;rintro e p ⟨qa,qc,rfl,O,P⟩);have a0:=lh (b.trans (P.mono b.size));have c:=(P.block B a7).trans q;obtain⟨G0,a8,a9,b0,b1⟩:=yGc Y.out O 0 l a3.out;obtain⟨G1,b2,c5,c6,c7⟩:=yGc Y.out O m o a4.out;subst a8;cases b2;rw [Nat.zero_mul] at a9 b0 b1;obtain⟨pa,cap,⟨_,_,_,_,_,_,p6⟩,a1⟩:=(X.out p a0.out).cells;obtain⟨G,eG,_,_,x2,_,_,_,_⟩:=a1 k x HX.out;subst eG;rw [HN.out] at p6;rw [a6.out] at x2;obtain⟨e0,e1,e2⟩:=qc3 c;have f0:p.frozen? ⟨B,0,none⟩=false:=fz c;have f1:p.frozen? ⟨B,1,none⟩=false:=fz c;have f2:p.frozen? ⟨B,2,none⟩=false:=fz c;have z:=lh (fun (s:St)=>(show (((p.setCell ⟨B,0,none⟩ (.int .i64 s.a)).setCell ⟨B,1,none⟩ (.bool s.back)).setCell ⟨B,2,none⟩ (.int .i64 (-1))).heap[B]? = some (.cells #[s.a,s.back,.int .i64 (-1)] 33 (0,0))∧Below w w (((p.setCell ⟨B,0,none⟩ (.int .i64 s.a)).setCell ⟨B,1,none⟩ (.bool s.back)).setCell ⟨B,2,none⟩ (.int .i64 (-1))) from ⟨(yT c _ _ _).1,a0.out.trans (u▸(yT c _ _ _).2)⟩));clear a1 b P O q c X t;by_cases A:lv % 2=1
 ·obtain rfl:o=V:=(by rw [←HV.out,Zg A]);have d1:(((lv % 2:Nat):Int)==1)=true:=ZD.2 (by omega);have b3:((lv:Int) % 2==1)=true:=ZD.2 (by omega);have b4:(lv % 2==1)=true:=ZD.2 A;go_wp2;exact qC (JT (ty:=33) rfl _ _ B _ _ _ _ rfl (z.out o).1 yh rfl yu) rfl ⟨rfl,u▸(z.out o).2⟩
 ·obtain rfl:l=V:=(by rw [←HV.out,Zf A]);have d1:(((lv % 2:Nat):Int)==1)=false:=zN.2 (by omega);have b3:((lv:Int) % 2==1)=false:=zN.2 (by omega);have b4:(lv % 2==1)=false:=zN.2 A;go_wp2;exact qC (JT (ty:=33) rfl _ _ B _ _ _ _ rfl (z.out l).1 yh rfl yu) rfl ⟨rfl,u▸(z.out l).2⟩
theorem cbeside_on (T:ByteArray) (N:T.size≤65536) (d f:Int) (g k l:Bool) (L:List OneR) (C:L.length≤1048576) (D:∀x∈L,yBl T x) (c E:Int) (v:Bool) (i j:Nat) (x:OneR) (z:L[i]? = some x) (hp:yEo T d f g k l L c v=((i:Int),(j:Int))) (b1:0≤yBv (ctI T c) L 0 (-1))
 (O:j+1=(stK d f g k l x).length) (y:OneR) (F:L[i+1]? = some y) (s P:Nat) (a2:x.r.level=s) (b2:s % 2≠1) (b3:s<256) (a3:y.r.level=P) (b4:P<256) (base t:Nat) (w:World) (R:yE9 w base t T d f g k l L) (hT:T8 w) (hD:DB w) :
 Calls Tryz.prog 70 #[.pointer (some ⟨t,0,none⟩),.agg #[c,v,E],.int .i64 1] w fun e w'=>e=.returned (yAy (yHl y (stK d f g k l y)))∧Below w w w':=by
 have S:=D x (zS z);have m:=lh (fun (W:World) (h:Below w w W)=>(⟨R.below h,hT.below rfl h,hD.below h⟩:yE9 W base t T d f g k l L∧T8 W∧DB W));have a4:=lh (fun (W:World) (h:Below w w W)=>(yFc T N d f g k l L C D c E v base t W (m.out W h).1 (m.out W h).2.1 (m.out W h).2.2).mono (fun e w' h=>(by rw [Zf (by omega),hp] at h;exact h:e=.returned (.tuple #[i,j,true])∧Below W W w')));have U:=lh (fun (W:World) (h:Below w w W)=>yG9 T N d f g k l L C i x z S base t W (m.out W h).1 (m.out W h).2.1 (m.out W h).2.2);have V:=lh (fun (W:World) (h:Below w w W)=>(by have h2:=cbegin_any T N d f g k l L C (i+1) y F (D y (zS F)) P a3 b4 base t W (m.out W h).1 (m.out W h).2.1 (m.out W h).2.2;rw [show (((i+1:Nat):Int))=(i:Int)+1 from by omega] at h2;exact h2:Calls Tryz.prog 108 #[.pointer (some ⟨t,0,none⟩),.int .i64 ((i:Int)+1)] W fun e w'=>e=.returned (yAy (yHl y (stK d f g k l y)))∧Below W W w'));obtain⟨u,a5⟩:∃b,yHl y (stK d f g k l y)=b:=⟨_,rfl⟩;rw [a5] at V ⊢;clear a5;obtain⟨Q,H⟩:=nm (stK d f g k l x);have b5:Q.length≤16777216:=by
  obtain⟨Q',n0,nc,pf,hf,eQ,en,ec,c4,c5,f1,f2,f3,_⟩:=yA3 x.line (by have:=yA6 S;omega) d f g k l x.r.a x.r.len x.r.wide x.r.fin;have h:=Zb List.length H;rw [yIe,zK,eQ] at h;omega
 obtain⟨q,A⟩:=nm (Q.length);rw [H,A] at U;rw [H] at O;rw [A] at b5;have c6:=lh A;have b6:=(zG.1 F).1;rw [A] at O;have c7:IntKind.i64.wrap ((j:Int)+1)=(q:Int):=by rw [ZH];omega
 have c8:decide ((q:Int) ≥ 0)=true:=zQ (by omega);have c9:decide ((q:Int)<(q:Int))=false:=zP (by omega);have d0:=yFe s b3;have d1:(((s % 2:Nat):Int)==1)=false:=zN.2 (by omega);have d2:((s:Int) % 2==1)=false:=zN.2 (by omega);have d3:(s % 2==1)=false:=zN.2 b2;have HX:=lh z;have b7:=lh a2;clear F O a3;have b8:=(zG.1 z).1;obtain⟨n,X⟩:=nm (L.length);have HN:=lh X;rw [X] at b8 C b6;obtain⟨h0,I,Y,a6⟩:=yBq w (.cells #[c,v,E] 33) (.cells #[.int .i64 0,false,.int .i64 0] 33);have b9:=R.lt;clear R hT hD hp b1 S D H z X A;go_enter Tryz.func70,Tryz.ntmps70;go_upto_region 1 with fail;generalize (w.alloc _).alloc _=W1 at h0 I Y a6 ⊢;obtain⟨B,hB⟩:=nm (w.heap.size);have Z:=lh Y;rw [hB] at h0 I a6 b9
 try rw [hB]
 obtain⟨c0,c1,c2⟩:=qc3 h0;have a7:=lh (a4.out W1 Z.out);go_upto_region 2 with (go_at_call 71;refine a7.out.mono ?_;rintro e w2 ⟨rfl,J⟩);have a0:=lh (Z.out.trans (J.mono Z.out.size));have d4:=J.size;have g1:=(J.block (B+1) (by omega)).trans I;have a8:=lh (U.out w2 a0.out);clear h0 I Y J c0 c1 c2 a7 a4;go_upto_region 5 with (go_at_call 73;refine a8.out.mono ?_;rintro e w3 ⟨qa,qc,rfl,hO,K⟩);have M:=lh (a0.out.trans (K.mono a0.out.size));have d5:=K.size;have g3:=(K.block (B+1) (by omega)).trans g1;have HO:=lh hO;clear hO K g1 a8 U;have d6:IntKind.i64.wrap ((i:Int)+1)=(i:Int)+1:=by rw [ZH];omega
 have d7:(i:Int)<(n:Int):=by omega
 have d8:(i:Int)+1<(n:Int):=by omega
 have d9:((i+1:Nat):Int)<(n:Int):=by omega
 obtain⟨pa,cap,⟨_,_,_,_,_,_,p6⟩,a9⟩:=(m.out w3 M.out).1.cells;obtain⟨G,eG,_,_,x2,_,_,_,_⟩:=a9 i x HX.out;subst eG;rw [HN.out] at p6;rw [b7.out] at x2;have c3:=lh g3;have HB:=lh (V.out w3 M.out);clear a9 a2 g3 V;go_upto_region 11 with fail;go_wp2_with (go_at_call 108;go_loud (refine HB.out.mono ?_); rintro e p ⟨rfl,a1⟩;have o:=(a1.block (B+1) (by omega)).trans c3.out;have e0:p.cell? ⟨B+1,0,none⟩=some (.int .i64 0):=(ce o);have e1:p.cell? ⟨B+1,1,none⟩=some (.bool false):=(ce o);have e2:p.cell? ⟨B+1,2,none⟩=some (.int .i64 0):=(ce o);have f0:p.frozen? ⟨B+1,0,none⟩=false:=(fz o);have f1:p.frozen? ⟨B+1,1,none⟩=false:=(fz o);have f2:p.frozen? ⟨B+1,2,none⟩=false:=(fz o);have b0:=lh (show (((p.setCell ⟨B+1,0,none⟩ (.int .i64 u.a)).setCell ⟨B+1,1,none⟩ (.bool u.back)).setCell ⟨B+1,2,none⟩ (.int .i64 (-1))).heap[B+1]? = some (.cells #[u.a,u.back,.int .i64 (-1)] 33 (0,0))∧Below w w (((p.setCell ⟨B+1,0,none⟩ (.int .i64 u.a)).setCell ⟨B+1,1,none⟩ (.bool u.back)).setCell ⟨B+1,2,none⟩ (.int .i64 (-1))) from ⟨(yT o _ _ _).1,(M.out.trans (a1.mono M.out.size)).trans ((yT o _ _ _).2.mono (by omega))⟩);unfold yAy;clear a1 o);exact qC (JT (ty:=33) rfl _ _ (B+1) _ _ _ _ rfl b0.out.1 yh rfl yu) rfl ⟨rfl,b0.out.2⟩
theorem levelI_bd (T:ByteArray) (want:Int) (raw:Bool):∃n:Nat,yMv T want raw=n∧n<256:=by
 unfold yMv;split
 ·exact⟨0,rfl,by omega⟩
 ·unfold yAx;rcases yGg want (((yE T).map yDa).length+1) ((yE T).map yDa) with h | h
  ·exact⟨0,by unfold yIm;dsimp only;omega,by omega⟩
  ·exact⟨1,by unfold yIm;dsimp only;omega,by omega⟩
theorem page_lv (T:ByteArray) (b:T.size≤65536) (wd tab want:Int) (wideA raw:Bool):∀x∈pageI T wd tab want wideA raw,∃n:Nat,x.r.level=n∧n<256:=by
 intro x hx;rw [yHb T b] at hx;unfold rowsOfL at hx;obtain⟨p,_,hx⟩:=List.mem_flatMap.1 hx;unfold oneL rowsI at hx;obtain⟨r,a,rfl⟩:=ZG.1 hx;split at a
 ·cases a
 ·obtain⟨q,_,rfl⟩:=ZG.1 a;exact levelI_bd _ want raw
section
variable (T:ByteArray) (hs:T.size≤65536) (wd tab want:Int) (wideA join raw:Bool) (L:List OneR) (hL:pageI T wd tab want wideA raw=L) (hn:L.length≤1000000) (i j:Nat) (x:OneR) (hx:L[i]? = some x) (st s:St) (hst:(stK tab want wideA join raw x)[j]? = some st) (cw:Int)
include hs hL hn hx hst
theorem cright_on (g:j+1=(stK tab want wideA join raw x).length) (y:OneR) (d:L[i+1]? = some y) (C:x.r.level % 2≠1) (k:y.r.level % 2≠1) (l:(stK tab want wideA join raw y)[0]? = some s) (w:World) (b:T8 w) (c:DB w) :
 Calls Tryz.prog 36 #[T,wd,.agg #[tab,wideA,.int .i8 want,join,raw],.agg #[st.a,st.back,cw]] w fun e w'=>e=.returned (yAy s)∧Below w w w':=by
 subst hL;obtain⟨m,f⟩:=yEb T hs wd tab want wideA raw;obtain⟨D,n⟩:=yG6 m f tab want wideA join raw i j x hx st hst;obtain⟨o,p,q⟩:=page_lv T hs wd tab want wideA raw x (zS hx);obtain⟨t,u,v⟩:=page_lv T hs wd tab want wideA raw y (zS d);have z:yHl y (stK tab want wideA join raw y)=s:=by
  unfold yHl;rw [Zf k];exact yRb l
 have h:=yLz T hs wd tab want wideA join raw st.a cw st.back (yHl y (stK tab want wideA join raw y)) hn (fun base A W B b c=>cbeside_on T hs tab want wideA join raw _ (by omega) f st.a cw st.back i j x hx n (yOe T hs wd tab want wideA raw hx _ (by omega)) g y d o t p (by omega) q u v base A W B b c) w b c;rw [z] at h;exact h
end
theorem cright_walk (T:ByteArray) (hs:T.size≤65536) (wd tab want:Int) (wideA join raw:Bool) (L:List OneR) (hL:pageI T wd tab want wideA raw=L) (hn:L.length≤1000000) (d:∀x∈L,x.r.level % 2≠1) (k i:Nat) (s t:St)
 (o:((L.take k).flatMap (stK tab want wideA join raw))[i]? = some s) (p:((L.take k).flatMap (stK tab want wideA join raw))[i+1]? = some t) (cw:Int) (w:World) (f:T8 w) (g:DB w) :
 Calls Tryz.prog 36 #[T,wd,.agg #[tab,wideA,.int .i8 want,join,raw],.agg #[s.a,s.back,cw]] w fun e w'=>e=.returned (yAy t)∧Below w w w':=by
 obtain⟨r,j,x,q,l,b⟩:=flat_next _ (stK_ne tab want wideA join raw) (L.take k) i s t o p;have n:∀(m:Nat) (z:OneR),(L.take k)[m]? = some z→L[m]? = some z:=fun m z h=>by
  rw [zv] at h;split at h
  ·exact h
  ·cases h
 have hx:=n _ _ q;rcases b with b | ⟨b,y,c,u⟩
 ·exact yNe T hs wd tab want wideA join raw L hL hn r j x hx s t l cw b w f g
 ·have c:=n _ _ c;exact cright_on T hs wd tab want wideA join raw L hL hn r j x hx s t l cw b y c (d x (zS hx)) (d y (zS c)) u w f g
theorem ca_one (Q:List St):∀u∈Q.flatMap caE.enc,u.oneCell'=true:=fun u a=>by
 obtain⟨s,_,h⟩:=List.mem_flatMap.1 a;simp only [caE,zX,ze,or_false] at h;rcases h with rfl | rfl | rfl <;> rfl
theorem flatT_take1 {α β:Type} (f:α→List β) (L:List α) (i:Nat) (x:α) (a:L[i]? = some x):(L.take (i+1)).flatMap f=(L.take i).flatMap f++f x:=by
 rw [yE2 a,zU,zV]
theorem LawCW_any (P:ByteArray) (H f g c cw nn:Int) (l z o b5:Bool) (w:World) (hT:T8 w) (hD:DB w) :
 Calls Tryz.prog 7 #[P,.agg #[H,f,l,.int .i8 g,z,o,c,b5,cw,nn]] w fun e w'=>e=.returned (.bool true)∧Below w w w':=by
 obtain⟨i5,j8,j9,k0,k1⟩:=info_parts (Tryz.info_caret);obtain⟨T,c1⟩:=nm (P.extract 0 (min P.size 2000));have m7:T.size≤2000:=c1▸yOw P;have hs:T.size≤65536:=by omega
 obtain⟨L,hL⟩:=nm (pageI T H f g l o);obtain⟨n,hn⟩:=nm (L.length);have m8:n≤100000:=by rw [←hn,←hL];have:=yPh T hs H f g l o;omega
 have c2:=yEb T hs H f g l o;rw [hL] at c2;have g2:=lh (fun (W:World) (h:Below w w W)=>(yMf T hs H f g l z o (by rw [hL,hn];omega) W (hT.below rfl h) (hD.below h)).mono (fun e w' h=>(by rw [hL,hn] at h;exact h:∃pa cap,e=.returned (.tuple #[.slice pa n cap,true])∧yN yFa 75 w' W.heap.size (.slice pa n cap) L∧Below W W w')));have k2:=lh (fun (W:World) (h:Below w w W) (x:OneR) (D:x∈L)=>yQ6 T hs f g l z o x (c2.2 x D) W (hT.below rfl h) (hD.below h));have g3:=lh (fun (W:World) (h:Below w w W) (b4:∀x∈L,x.r.level % 2≠1) (k i:Nat) (s t:St) (h1:((L.take k).flatMap (stK f g l z o))[i]? = some s) (h2:((L.take k).flatMap (stK f g l z o))[i+1]? = some t)=>cright_walk T hs H f g l z o L hL (by omega) b4 k i s t h1 h2 (-1) W (hT.below rfl h) (hD.below h));have k3:=lh (fun x (D:x∈L)=>page_lv T hs H f g l o x (hL▸D));have d4:=lh (fun (W:World) (h:Below w w W)=>yI1 W (hT.below rfl h) (hD.below h));unfold yAy at g3;have k4:=lh c2.2;have HN:=lh hn;obtain⟨m,A⟩:=nm (min P.size 2000);rw [A] at c1;have k5:min (P.size:Int) 2000=(m:Int):=by omega
 have k6:(m:Int)≤(P.size:Int):=by omega
 have d5:m≤P.size:=by omega
 clear c2 hT hD hL hn;go_enter Tryz.func7,Tryz.ntmps7;go_upto_region 1 with fail;have b6:=zL w (.cells #[H,f,l,.int .i8 g,z,o,c,b5,cw,nn] 70);have c3:=qal w (.cells #[H,f,l,.int .i8 g,z,o,c,b5,cw,nn] 70);have g4:=zM w (.cells #[H,f,l,.int .i8 g,z,o,c,b5,cw,nn] 70);generalize w.alloc _=W1 at b6 c3 g4 ⊢;obtain⟨B,hB⟩:=nm (w.heap.size);have g5:=lh (g2.out W1 c3);have g6:=lh c3;rw [hB] at b6 g4
 try rw [hB]
 have g7:=lh b6;obtain⟨a0,R,U,V,X,Y⟩:=qc6 b6;clear c3 b6 g2;go_upto_region 2 with fail
 try rw [c1]
 go_upto_region 3 with (go_at_call 33;refine g5.out.mono ?_;rintro e w2 ⟨pa,cap,rfl,hO,c4⟩);have g8:=(c4.block B (by omega)).trans g7.out;have g9:=lh (g6.out.trans (c4.mono g6.out.size));have m9:=c4.size;have k7:=lh (fun (W:World) (Z:Below w2 w2 W) (i:Nat) (x:OneR) (D:L[i]? = some x)=>yKk (by rw [HN.out];exact hO) Z i x D);have k8:=lh g8;clear a0 R U V X Y c4 hO g8 g5 g7 c1 k5 k6 d5 A;go_upto_block 0 with fail;go_wp2;obtain⟨F,hF⟩:∃F:Nat→List St,(fun k=>(L.take k).flatMap (stK f g l z o))=F:=⟨_,rfl⟩;have d6:F 0=[]:=by rw [←hF];rfl
 have h0:∀i x,L[i]? = some x→F (i+1)=F i++stK f g l z o x:=fun i x D=>by rw [←hF];exact flatT_take1 _ L i x D
 have h3:∀k,(L.take k).flatMap (stK f g l z o)=F k:=fun k=>by rw [←hF]
 have h4:=lh h3;have k9:=lh h0;clear hF h0 h3;obtain⟨I,d7⟩:∃M,w2.heap.size=M:=⟨_,rfl⟩;go_loopw [7,8] (fun u7 u8 wx=>∃(i k:Nat) (a:Option Addr) (c':Nat),i≤n∧u8=.int .i64 i∧k≤i∧(k=i∨300≤(F k).length)∧(F k).length≤8389000∧u7=.slice a (F k).length c'∧yN caE 33 wx I (.slice a (F k).length c') (F k)∧(∀m y,m<i→L[m]? = some y→y.r.level % 2≠1)∧Below I w2 wx) (fun _ u8 _=>n-(intOf u8).toNat)
 case atStart=>exact⟨0,0,none,0,zd _,rfl,zT _,.inl rfl,by rw [d6];simp,by rw [d6];rfl,by rw [d6];exact yN.nil _ _ _,fun m y h=>qF h (by omega),Zc _ _⟩
 case round =>
  obtain⟨i,k,la,lc,n0,rfl,n1,d8,d9,rfl,e0,b4,Z⟩:=hrel;have HB:=lh Z;have b0:=lh (g9.out.trans (Z.mono (by rw [←d7];exact g9.out.size)));have b1:=(Z.block B (by omega)).trans k8.out;obtain⟨M,hM⟩:=nm (F k);obtain⟨C,c5⟩:∃m,M.length=m:=⟨_,rfl⟩;rw [hM] at d9 e0 d8 ⊢;rw [c5] at d9 d8 ⊢;have h5:wr.ownsRow I 33 3 (.slice la C lc) C (M.flatMap caE.enc):=by
   have h:=e0;unfold yN at h;rw [c5] at h;exact h
  have c6:=lh h5;have a6:=lh c5;have h6:=lh b1;have b2:=lh hM;clear e0 h5 c5 hM;by_cases l0:i<n
  ·have n2:(i:Int)<(n:Int):=(by omega);have n3:IntKind.i64.wrap ((i:Int)+1)=(i:Int)+1:=(by rw [ZH];omega);obtain⟨x,D⟩:∃x,L[i]? = some x:=⟨_,zF (by have:=HN.out;omega)⟩;obtain⟨G,rfl,h7,x0,x1,x2,x3,x4,x5,x6⟩:=k7.out wr (by rw [d7];exact Z) i x D;rw [d7] at h7;obtain⟨-,R,U,V,X,Y⟩:=qc6 b1;have c7:=lh D;obtain⟨lv,e1,n4⟩:=k3.out x (zS D);have l1:Int.tmod (lv:Int) 2=((lv % 2:Nat):Int):=(by rw [Int.tmod_eq_emod_of_nonneg (by omega)];omega);have l2:IntKind.u8.wrap ((lv % 2:Nat):Int)=((lv % 2:Nat):Int):=(by rcases (by omega:lv % 2=0∨lv % 2=1) with e | e <;> rw [e] <;> decide);obtain⟨ev,l3⟩:∃e,lv % 2=e:=⟨_,rfl⟩;rw [l3] at l1 l2;rw [e1] at x2;clear D b1 Z;by_cases n5:ev=1
   ·have d1:((ev:Int)==1)=true:=ZD.2 (by omega);have HK:=lh (d4.out wr b0.out);go_wp2_with (go_at_call 34;refine HK.out.mono ?_;rintro e w9 ⟨rfl,a7⟩;have b7:=lh (b0.out.trans (a7.mono b0.out.size));clear a7);go_ret;exact⟨rfl,b7.out⟩
   ·have d1:((ev:Int)==1)=false:=zN.2 (by omega);have h8:∀m y,m<i+1→L[m]? = some y→y.r.level % 2≠1:=fun m y A hy=>by
     by_cases e:m<i
     ·exact b4 m y e hy
     ·obtain rfl:m=i:=(by omega);have:=c7.out.symm.trans hy;cases this;rw [e1];omega
    have h9:=lh h8;clear b4 h8;by_cases n6:C<300
    ·have l4:k=i:=by
      rcases d8 with h | h
      ·exact h
      ·omega
     subst l4;have d5:(C:Int)<300:=(by omega);go_upto_region 12 with fail;obtain⟨S,b8,b3⟩:∃S:World→Prop,(∀W,S W→yi [G,B] wr W)∧(∀W,yi [G,B] wr W→S W):=⟨fun W=>yi [G,B] wr W,fun _ h=>h,fun _ h=>h⟩;have d:∀(b i:Nat) (u:Value),b∈[G,B]→wr.cell? ⟨b,i,none⟩=some u→∀p:WIn S,p.w.cell? ⟨b,i,none⟩=some u:=fun b i u A h p=>(yBb (b8 _ p.h b A)).trans h;have q0:=d G _ _ (by simp) x0;have q1:=d G _ _ (by simp) x1;have q2:=d G _ _ (by simp) x2;have q3:=d G _ _ (by simp) x3;have q4:=d G _ _ (by simp) x4;have q5:=d G _ _ (by simp) x5;have q6:=d G _ _ (by simp) x6;have q7:=d B _ _ (by simp) R;have q8:=d B _ _ (by simp) U;have q9:=d B _ _ (by simp) V;have e2:=d B _ _ (by simp) X;have e5:=d B _ _ (by simp) Y;have N:=lh b3;have e6:Nonempty (WIn S):=⟨⟨wr,b3 _ (fun _ _=>rfl)⟩⟩;have n7:G<I:=h7;have l5:I≤wr.heap.size:=(by have:=HB.out.size;omega);have i0:∀b∈[G,B],b<I:=fun b A=>by
      simp only [zX,ze,or_false] at A;rcases A with rfl | rfl <;> omega
     have e7:=lh i0;clear b8 b3 d x0 x1 x2 x3 x4 x5 x6 R U V X Y i0;refine yn S (by kernel_rfl) ?_;have E:Below wr wr wr.drew:=(Zc _ _).drew;have e8:S wr.drew:=N.out _ (fun _ _=>rfl);generalize wr.drew=X0 at E e8 ⊢;have c8:=k2.out X0 (b0.out.trans (E.mono b0.out.size)) x (zS c7.out);rw [e1] at c8;obtain⟨Q,hQ⟩:=nm (stK f g l z o x);obtain⟨qn,b9⟩:∃k,Q.length=k:=⟨_,rfl⟩;have n8:qn≤8388608:=by
      rw [←b9,←hQ];exact stK_max T hs f g l z o x (k4.out x (zS c7.out))
     have n9:0<qn:=(by rw [←b9,←hQ];exact zj.2 (stK_ne f g l z o x));have i1:F (k+1)=M++Q:=(by rw [k9.out k x c7.out,b2.out,hQ]);rw [hQ,b9] at c8;have HC:=lh c8;have c9:=lh b9;have i2:=lh i1;clear c8 hQ b9 i1;refine yAq [0,1,2,3,4,5,6] 7 [_,_,_,_,_,_,_] (fuel:=2) yC (by kernel_rfl) e8 ?_
     repeat (go_big_quiet_step (fail))
     refine Zt ?_;intro K a8;go_wp2_with (go_at_call 35;refine HC.out.mono ?_;rintro e w5 ⟨qa,qc,rfl,i3,i4⟩);have O:=E.trans (i4.mono E.size);have e9:yi [G,B] wr w5:=yi.below (fun _ _=>rfl) O (fun b A=>by have:=e7.out b A;omega);have f0:S w5:=N.out _ e9;refine a8.out _ _ f0 ?_;clear a8;have l6:=yB2 (xs:=Q.flatMap caE.enc) (n:=qn) (by have h:=i3;unfold yN at h;rw [c9.out] at h;exact h) (by omega);obtain⟨G5,l7,o0,_,l8⟩:=l6;subst l7;have i6:=yAd c6.out (show wr.grownBy w5 none from ⟨O.os,O.tape,O.output,O.size,fun k hk _=>O.block k hk⟩) (fun k e=>by cases e);have o1:=O.size;refine yj 8 (fuel:=1) yC (by kernel_rfl) f0 fun K a8=>?_;refine Zy _ rfl _ _ 27 rfl I 33 i5 _ 3 24 Tryz.underlying27 j8 j9 k0 k1 rfl (by decide) _ C _ rfl i6 ⟨G5,0,none⟩ qn qc (Q.flatMap caE.enc) rfl (by rw [flatS_len,c9.out];rfl) (fun j u hu=>by rw [JK,Za,l8 j (by have:=(zG.1 hu).1;rw [flatS_len,c9.out] at this;exact this)];exact hu) (ca_one _) (by unfold maxLen;omega) (by omega) (by omega) ?_;intro v' w6 f1 c0 _ _;replace c0:w5.grownBy w6 (Value.slice la C lc).ownBlock:=c0;have i7:=ZW c6.out;have i9:Below I wr w6:=(O.mono l5).grown c0 (by omega) (fun q hq=>(i7 q hq).1);obtain⟨a',c',l9,_,_⟩:=yP f1;subst l9;have f2:(F (k+1)).length=C+qn:=(by rw [i2.out,zJ,a6.out,c9.out]);have j0:yN caE 33 w6 I (.slice a' (F (k+1)).length c') (F (k+1)):=by
      unfold yN;rw [f2,i2.out,zU];exact f1
     have m0:=lh j0;have m1:=lh (HB.out.trans i9);have j1:=lh f2;have f3:S w6:=N.out _ (yi.grown e9 c0 (fun b A=>⟨by have:=e7.out b A;omega,fun e=>by have:=(i7 b e.symm).1;have:=e7.out b A;omega⟩));refine a8.out _ _ f3 ?_;clear a8;simp only [Act.put,zg,zh,zi];refine yAi [9] yC (by kernel_rfl) f3 ?_;simp only [yS,zD,zE,zC,zB,zA];show wpQuiet _ _ _ _ [_] _
     repeat (go_big_quiet_step (fail))
     refine Zt ?_;simp only [NoPanic];clear q0 q1 q2 q3 q4 q5 q6 q7 q8 q9 e2 e5 e6 N e8 f0 e9 f3 E O i4 i3 HC i6 f1 c0 j0 i9 f2;go_wp2;go_roundw
     case rel=>exact⟨k+1,k+1,a',c',by omega,by go_num,zT _,.inl rfl,by rw [j1.out];omega,by rw [j1.out],m0.out,h9.out,m1.out⟩
     case measure=>simp [intOf];omega
    ·have d5:¬ ((C:Int)<300):=(by omega);have j2:yN caE 33 wr I (.slice la (F k).length lc) (F k):=by
      unfold yN;rw [b2.out,a6.out];exact c6.out
     have m2:=lh j2;clear x0 x1 x3 x4 x5 x6 R U V X Y j2;go_wp2;go_roundw
     case rel=>exact⟨i+1,k,la,lc,by omega,by go_num,by omega,.inr (by rw [b2.out,a6.out];omega),by rw [b2.out,a6.out];exact d9,by rw [b2.out,a6.out],m2.out,h9.out,HB.out⟩
     case measure=>simp [intOf];omega
  ·obtain rfl:i=n:=(by omega);have j3:∀x∈L,x.r.level % 2≠1:=fun x D=>by
    obtain⟨m,A⟩:=qk.1 D;exact b4 m x (by have:=(zG.1 A).1;have:=HN.out;omega) A
   have m3:=lh j3;clear b4 j3 b1 Z l0;obtain⟨W8,m4⟩:∃W,W=wr:=⟨_,rfl⟩;subst m4;go_upto_block 2 with fail;go_wp2;go_loopw [9] (fun u9 wx=>∃(q:Nat),q≤C∧u9=.int .i64 q∧Below W8 W8 wx) (fun u9 _=>C-(intOf u9).toNat)
   case atStart=>exact⟨0,zd _,rfl,Zc _ _⟩
   case round =>
    obtain⟨q,o2,rfl,J⟩:=hrel;have a9:=lh (b0.out.trans (J.mono b0.out.size));have j4:=lh J;have o3:IntKind.i64.wrap ((q:Int)+1)=(q:Int)+1:=(by rw [ZH];omega);by_cases o4:q+1<C
    ·by_cases o5:q<300
     ·have j5:(q:Int)+1<(C:Int):=(by omega);have o6:(q:Int)<(C:Int):=(by omega);have m5:(q:Int)<300:=(by omega);obtain⟨st,f4⟩:∃s,M[q]? = some s:=⟨_,zF (by have:=a6.out;omega)⟩;obtain⟨s2,f5⟩:∃s,M[q+1]? = some s:=⟨_,zF (by have:=a6.out;omega)⟩;have f6:yN caE 33 wr I (.slice la M.length lc) M:=by
       unfold yN;rw [a6.out];exact yAd c6.out (show W8.grownBy wr none from ⟨J.os,J.tape,J.output,J.size,fun k hk _=>J.block k hk⟩) (fun k e=>by cases e)
      obtain⟨G2,rfl,_,_,d0,_⟩:=f6.at q st f4;obtain⟨G3,j6,_,_,d2,_⟩:=f6.at (q+1) s2 f5;obtain rfl:G2=G3:=(by cases j6;rfl);have y0:wr.cell? ⟨G2,q*3,none⟩=some (.int .i64 st.a):=d0 0 _ rfl;have y1:wr.cell? ⟨G2,q*3+1,none⟩=some (.bool st.back):=d0 1 _ rfl;have y2:wr.cell? ⟨G2,q*3+2,none⟩=some (.int .i64 (-1)):=d0 2 _ rfl;have z0:wr.cell? ⟨G2,(q+1)*3,none⟩=some (.int .i64 s2.a):=d2 0 _ rfl;have z1:wr.cell? ⟨G2,(q+1)*3+1,none⟩=some (.bool s2.back):=d2 1 _ rfl;have z2:wr.cell? ⟨G2,(q+1)*3+2,none⟩=some (.int .i64 (-1)):=d2 2 _ rfl;have b1:=(J.block B (by have:=(zH.1 h6.out).1;omega)).trans h6.out;obtain⟨a0,R,U,V,X,Y⟩:=qc6 b1;have f7:=lh (fun (W:World) (h:Below wr wr W)=>g3.out W (a9.out.trans (h.mono a9.out.size)) m3.out k q st s2 (by rw [h4.out,b2.out];exact f4) (by rw [h4.out,b2.out];exact f5));obtain⟨ta,f8⟩:∃a,(st.a:Int)=a:=⟨_,rfl⟩;obtain⟨tb,f9⟩:∃a,st.back=a:=⟨_,rfl⟩;obtain⟨ua,g0⟩:∃a,(s2.a:Int)=a:=⟨_,rfl⟩;obtain⟨ub,g1⟩:∃a,s2.back=a:=⟨_,rfl⟩;rw [f8] at y0;rw [f9] at y1;rw [g0] at z0;rw [g1] at z1;rw [f8,f9,g0,g1] at f7;have e3:(ua==ua)=true:=zk _;have e4:(ub==ub)=true:=zk _;clear f4 f5 b1 J f8 f9 g0 g1 d0 d2 f6 j6;go_upto_region 16 with fail;obtain⟨S,b8,b3⟩:∃S:World→Prop,(∀W,S W→Below wr wr W)∧(∀W,Below wr wr W→S W):=⟨fun W=>Below wr wr W,fun _ h=>h,fun _ h=>h⟩;have d:∀(b i:Nat) (v:Value),wr.cell? ⟨b,i,none⟩=some v→∀p:WIn S,p.w.cell? ⟨b,i,none⟩=some v:=fun b i v h p=>yB (b8 _ p.h) (yD h) h;have q0:=d _ _ _ y0;have q1:=d _ _ _ y1;have q2:=d _ _ _ y2;have q3:=d _ _ _ z0;have q4:=d _ _ _ z1;have q5:=d _ _ _ z2;have q6:=d _ _ _ a0;have q7:=d _ _ _ R;have q8:=d _ _ _ U;have q9:=d _ _ _ V;have e2:=d _ _ _ X;have e5:=d _ _ _ Y;have N:=lh b3;have e6:Nonempty (WIn S):=⟨⟨wr,b3 _ (Zc _ _)⟩⟩;clear b8 b3 d y0 y1 y2 z0 z1 z2 a0 R U V X Y;refine yn S (by kernel_rfl) ?_;have E:Below wr wr wr.drew:=(Zc _ _).drew;generalize wr.drew=X0 at E ⊢;have HC:=lh (f7.out X0 E);refine yAq [0,1,2,3,4,5,6,7,8,10,11,12,13,14] 9 [_,_,_,_,_,_,_,_,_,_,_,_,_,_] (fuel:=1) yC (by kernel_rfl) (N.out _ E) ?_
      repeat (go_big_quiet_step (fail))
      refine Zt ?_;intro K a8;go_wp2_with (go_at_call 36;refine HC.out.mono ?_;rintro e w7 ⟨rfl,j7⟩);have d3:=E.trans (j7.mono E.size);refine a8.out _ _ (N.out _ d3) ?_;clear a8 HC;refine yAi [15] yC (by kernel_rfl) (N.out _ d3) ?_;simp only [yS,zD,zE,zC,zB,zA];show wpQuiet _ _ _ _ [_] _
      repeat (go_big_quiet_step (fail))
      refine Zt ?_;simp only [NoPanic];have m6:=lh (j4.out.trans (d3.mono j4.out.size));clear q0 q1 q2 q3 q4 q5 q6 q7 q8 q9 e2 e5 e6 N E d3 j7 f7;go_wp2;go_roundw
      case rel=>exact⟨q+1,by omega,by go_num,m6.out⟩
      case measure=>simp [intOf];omega
     ·have j5:(q:Int)+1<(C:Int):=(by omega);have m5:¬ ((q:Int)<300):=(by omega);have HK:=lh (d4.out wr a9.out);clear J;go_wp2_with (go_at_call 34;refine HK.out.mono ?_;rintro e w9 ⟨rfl,a7⟩;have b7:=lh (a9.out.trans (a7.mono a9.out.size));clear a7);go_ret;exact⟨rfl,b7.out⟩
    ·have j5:¬ ((q:Int)+1<(C:Int)):=(by omega);have HK:=lh (d4.out wr a9.out);clear J;go_wp2_with (go_at_call 34;refine HK.out.mono ?_;rintro e w9 ⟨rfl,a7⟩;have b7:=lh (a9.out.trans (a7.mono a9.out.size));clear a7);go_ret;exact⟨rfl,b7.out⟩
end
end Go.Proofs.YtncplikdjcmoeaaGreatDoor
