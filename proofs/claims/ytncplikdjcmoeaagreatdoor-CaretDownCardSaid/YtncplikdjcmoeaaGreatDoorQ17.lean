/- Lemmas, part 17: no further condition than each states. -/
import Derived.Test.YtncplikdjcmoeaaGreatDoorQ16
namespace Go.Proofs.YtncplikdjcmoeaaGreatDoor
set_option linter.unusedVariables false
set_option linter.unusedSimpArgs false
set_option maxRecDepth 100000
set_option maxHeartbeats 4000000
section
open Go.RowKit Go.Proofs Go.Shelf
theorem eq_fnN (n:Nat) (a:Fn) (b cs:Array Value) (w:World):(Op.equalIn (n+1) 46 (.func a b cs) .nilFunc).run Tryz.prog w=.ok false w:=by
 unfold Op.equalIn;simp [JU Tryz.underlying46,Sem.run_bind]
theorem eq_fn (a:Fn) (b cs:Array Value) (w:World):(binOp BinOp.eql 46 (.func a b cs) .nilFunc).run Tryz.prog w=.ok (.bool false) w:=by
 have h:=eq_fnN 9999 a b cs w;simp only [binOp,Op.equal];rw [show Op.maxDepth=9999+1 from rfl];simp [h]
end
section
theorem yOn {R:OneR→OneR→Prop}:∀(L:List OneR),Adj R L→∀(i:Nat) (x y:OneR),L[i]? = some x→L[i+1]? = some y→R x y
 | [],_,i,x,y,h,_=>by simp at h
 | [z],_,i,x,y,_,h=>by simp at h
 | a::b::t,h,0,x,y,hx,hy=>by
   have c:a=x:=(by simpa using hx);have d:b=y:=(by simpa using hy);rw [←c,←d];exact h.1
 | a::b::t,h,i+1,x,y,hx,hy=>yOn (b::t) h.2 i x y (by simpa using hx) (by simpa using hy)
theorem rowK_none (a:Int):∀(L:List OneR) (i:Nat) (f:Int),(∀y∈L,a<yW y)→yBv a L i f=f
 | [],_,_,_=>rfl
 | x::t,i,f,h=>by
   rw [yBv,Zf (by have:=h x (zR ..);omega)];exact rowK_none a t _ f (fun y b=>h y (zc _ b))
theorem rowK_eq (a:Int):∀(L:List OneR) (i k:Nat) (f:Int) (x:OneR),L[k]? = some x→yW x≤a→(∀m y,k<m→L[m]? = some y→a<yW y)→yBv a L i f=((i+k:Nat):Int)
 | [],_,k,_,x,h,_,_=>by simp at h
 | z::t,i,0,f,x,h,h1,h2=>by
   have e:z=x:=(by simpa using h);rw [yBv,e,Zg h1];refine rowK_none a t _ _ (fun y b=>?_);obtain⟨m,c⟩:=qk.1 b;exact h2 (m+1) y (by omega) (by simpa using c)
 | z::t,i,k+1,f,x,h,h1,h2=>by
   rw [yBv,rowK_eq a t (i+1) k _ x (by simpa using h) h1 (fun m y c b=>h2 (m+1) y (by omega) (by simpa using b))]
   congr 1
   omega
theorem yJi {T:ByteArray} {L:List OneR} (b:Adj yIa L) (c:∀x∈L,yBl T x):∀(d i:Nat) (x y:OneR),L[i]? = some x→L[i+d+1]? = some y→yW x<yW y
 | 0,i,x,y,hx,hy=>by
   obtain⟨f,g⟩:=yOn L b i x y hx hy;obtain⟨_,a,len,_,_,h,j,_,_,k⟩:=c x (zS hx);have l:yE0 x=yW x+len:=(by unfold yE0 yW;omega);cases hc:cutR x with
   | true=>have:=f hc;have:=k hc;omega
   | false=>have:=g hc;omega
 | d+1,i,x,y,hx,hy=>by
   obtain⟨z,e⟩:∃z,L[i+d+1]? = some z:=⟨_,zF (by have:=(zG.1 hy).1;omega)⟩;have h:=yJi b c d i x z hx e;have j:=yJi b c 0 (i+d+1) z y e hy;omega
theorem yN1 (a:Nat) (b:Bool):∀(L:List St) (i:Nat) (f:Int),0≤f→(∀s∈L,¬ (s.a=a∧s.back=b))→yCs a b L i f=f
 | [],_,_,_,_=>rfl
 | s::t,i,f,h,hn=>by
   rw [yCs,Zf (fun ⟨e,h2⟩=>h2.elim (fun c=>by omega) (fun c=>hn s (zR ..) ⟨e,c⟩))];exact yN1 a b t _ f h (fun u d=>hn u (zc _ d))
theorem found_at (a:Nat) (b:Bool):∀(L:List St) (i k:Nat) (f:Int) (s:St),L[k]? = some s→s.a=a→s.back=b→L.Pairwise yMi→yCs a b L i f=((i+k:Nat):Int)
 | [],_,k,_,s,h,_,_,_=>by simp at h
 | z::t,i,0,f,s,h,h1,h2,hp=>by
   have e:z=s:=(by simpa using h);rw [yCs,e,Zg ⟨h1,.inr h2⟩];exact yN1 a b t _ _ (by omega) (fun u c ⟨d,q2⟩=>(qN.1 hp).1 u c ⟨by rw [e];omega,by rw [e,h2,q2]⟩)
 | z::t,i,k+1,f,s,h,h1,h2,hp=>by
   rw [yCs,found_at a b t (i+1) k _ s (by simpa using h) h1 h2 (qN.1 hp).2]
   congr 1
   omega
theorem row_stop {T:ByteArray} {L:List OneR} (g:Adj yIa L) (h:∀x∈L,yBl T x) (n o:Int) (p q r:Bool) (i:Nat) (x:OneR) (d:L[i]? = some x) (b:St) (t:b∈stK n o p q r x):yBm L b.a b.back=i:=by
 obtain⟨u,I,J⟩:=yB3 T n o p q r x (h x (zS d));obtain⟨v,K,M,w,A⟩:=u b t;by_cases s:(b.a:Int)=yE0 x∧cutR x=true∧i+1<L.length
 ·obtain⟨B,j,C⟩:=s;obtain⟨y,c⟩:∃y,L[i+1]? = some y:=⟨_,zF C⟩;have N:=(yOn L g i x y d c).1 j;have k:yBv b.a L 0 (-1)=((i+1:Nat):Int):=by
   have:=rowK_eq b.a L 0 (i+1) (-1) y c (by omega) (fun m z D f=>by
    have:=yJi g h (m-(i+1)-1) (i+1) y z c (by rw [show i+1+(m-(i+1)-1)+1=m by omega];exact f);omega)
   rw [this]
   congr 1
   omega
  unfold yBm;rw [k];have l:yEt L b.a b.back ((i+1:Nat):Int)=true:=by
   unfold yEt;rw [ZC,getD_some c,show i+1-1=i from rfl,getD_some d,A B j,zQ (show (0:Int)<((i+1:Nat):Int) by omega),zQ (show yW y=(b.a:Int) by omega),zQ (show yE0 x=(b.a:Int) by omega),j];rfl
  rw [Zg l];omega
 ·have k:yBv b.a L 0 (-1)=((i:Nat):Int):=by
   have:=rowK_eq b.a L 0 i (-1) x d v (fun m z D f=>by
    obtain⟨y,c⟩:∃y,L[i+1]? = some y:=⟨_,zF (by have:=(zG.1 f).1;omega)⟩;have E:=(zG.1 c).1;have F:(b.a:Int)<yW y:=by
     obtain⟨G,H⟩:=yOn L g i x y d c;cases hcx:cutR x with
     | true =>
       have:=G hcx;have:(b.a:Int)≠yE0 x:=fun e=>s ⟨e,hcx,E⟩;omega
     | false=>have:=H hcx;omega
    by_cases e:m=i+1
    ·subst e;rw [c] at f;obtain rfl:=zu f;exact F
    ·have:=yJi g h (m-(i+1)-1) (i+1) y z c (by rw [show i+1+(m-(i+1)-1)+1=m by omega];exact f);omega)
   rw [this]
   congr 1
   omega
  unfold yBm;rw [k];have l:yEt L b.a b.back ((i:Nat):Int)=false:=by
   unfold yEt;rw [ZC,getD_some d];cases hbk:b.back with
   | false=>simp
   | true =>
     have:=w hbk;rw [zP (show ¬ yW x=(b.a:Int) by omega)];simp
  rw [Zf (by rw [l];decide)]
theorem yG6 {T:ByteArray} {L:List OneR} (p:Adj yIa L) (l:∀x∈L,yBl T x) (c d:Int) (e f g:Bool) (i j:Nat) (x:OneR) (h:L[i]? = some x) (b:St) (m:(stK c d e f g x)[j]? = some b) :
 ctI T b.a=b.a∧yEo T c d e f g L b.a b.back=((i:Int),(j:Int)):=by
 have n:=zS m;obtain⟨q,r,t⟩:=yB3 T c d e f g x (l x (zS h));obtain⟨k,s⟩:=(q b n).2.2.1;have o:=ct_bord s;refine⟨o,?_⟩;unfold yEo;rw [o,row_stop p l c d e f g i x h b n,ZC,getD_some h,found_at b.a b.back _ 0 j (-1) b m rfl rfl r];rw [Za]
end
section
variable (tab want:Int) (wideA join raw:Bool)
end
section
variable {T:ByteArray} {L:List OneR} (hA:Adj yIa L) (hR:∀x∈L,yBl T x) (tab want:Int) (wideA join raw:Bool)
include hA hR
end
theorem yOm (a:Int):∀(L:List OneR) (i:Nat) (f:Int),(yBv a L i f=f)∨∃k:Nat,yBv a L i f=k∧i≤k∧k<i+L.length
 | [],_,_=>.inl rfl
 | x::t,i,f=>by
   rw [yBv];rcases yOm a t (i+1) (if yW x≤a then (i:Int) else f) with h | ⟨k,b,c,d⟩
   ·rw [h];split
    ·exact .inr ⟨i,rfl,zT _,by rw [zb];omega⟩
    ·exact .inl rfl
   ·exact .inr ⟨k,b,by omega,by rw [zb];omega⟩
theorem rowK_ge (a:Int) (x:OneR) (t:List OneR) (h:yW x≤a):0≤yBv a (x::t) 0 (-1):=by
 rw [yBv,Zg h];rcases yOm a t 1 ((0:Nat):Int) with h | ⟨k,b,_⟩
 ·rw [h];omega
 ·rw [b];omega
theorem yPd (T:ByteArray) (e:T.size≤65536) (b tab want:Int) (wideA raw:Bool) (a:Int) (i:0≤a) (c:pageI T b tab want wideA raw≠[]):0≤yBv a (pageI T b tab want wideA raw) 0 (-1):=by
 rw [yHb T e] at c ⊢;by_cases hw:1≤b∧b≤1024
 ·obtain⟨_,_,g⟩:=yM7 T b tab want wideA raw hw e _ (yIp T e);have h:=yCg T (yF T) 0 0 (yF1 T) (zT _);cases hl:linesI T with
  | nil=>rw [hl] at c;exact qF rfl c
  | cons p t =>
    have h0:p.1=0:=by
     have f:yD2 0 (linesI T) T.size:=h;rw [hl] at f;exact f.1
    obtain⟨x,d,j⟩:=g p t hl;rw [hl] at d;cases hr:rowsOfL b tab want wideA raw (p::t) with
    | nil=>rw [hr] at d;cases d
    | cons y u =>
      rw [hr] at d;obtain rfl:y=x:=(by simpa using d);exact rowK_ge a y u (by omega)
 ·rw [yIx _ _ _ _ _ hw] at c;exact qF rfl c
theorem yNl (b tab want:Int) (wideA raw:Bool):∀(L:List (Nat × ByteArray)) (a z:Nat),yD2 a L z→(rowsOfL b tab want wideA raw L).length+a≤z+L.length
 | [],a,z,h=>by
   have h:a=z:=h;unfold rowsOfL;rw [List.flatMap_nil,zn,zn];omega
 | p::t,a,z,h=>by
   have c:=yNl b tab want wideA raw t _ z h.2;have d:(oneL p (rowsI p.2 b tab want wideA raw)).length≤p.2.size+1:=by
    unfold oneL rowsI;rw [zK];split
    ·simp
    ·rw [zK];have:=yI0 (yN9 p.2 b tab wideA raw) (yU p.2) (yBz p.2).isSome ((yU p.2).size+1) 0 0 (yQ.zero _);have:=(yCz p.2).1;omega
   unfold rowsOfL at c ⊢;rw [ZK,zJ,zb];omega
theorem lnF_len (s:ByteArray):∀(L:List (Nat × ByteArray)) (fr:Nat),(lnF s L fr).length≤2*L.length+1
 | [],fr=>by rw [lnF];simp
 | p::t,fr=>by
   rw [lnF,zJ,zb];have a:=lnF_len s t (frLn fr p);have b:(yJt s fr p).length≤2:=by
    unfold yJt;rw [zJ];split <;> split <;> simp
   omega
theorem yPh (T:ByteArray) (b:T.size≤65536) (a tab want:Int) (wideA raw:Bool):(pageI T a tab want wideA raw).length≤3*T.size+1:=by
 rw [yHb T b];have c:=yNl a tab want wideA raw (linesI T) 0 T.size (yCg T (yF T) 0 0 (yF1 T) (zT _));have d:=lnF_len T (yF T) 0;have e:=yAj T;have:(linesI T).length≤2*T.size+1:=by unfold linesI;omega
 omega
section
open Go.RowKit Go.Proofs Go.Shelf
attribute [local go_sem] qV
theorem Tryz.info_seen:(Tryz.prog.info? 75).map (fun i=>(i.zero,i.size,i.bytes))=some (some (.agg #[.int .i64 0,.int .i64 0,.int .u8 0,.int .i64 0,.int .i8 0,.int .i64 0,.string ⟨#[]⟩]),7,64):=by kernel_rfl
def rsP (z:Nat) (b t:Nat):Prop:=b<z∨b=z+1∨t=75
def RsB (B z:Nat) (T:ByteArray) (wd tab want:Int) (wideA join raw:Bool) (W0:World) (out:List OneR) (X:World):Prop :=
 (∃v,Boxed X (z+1) 71 v∧X.ownsRow (z+6) 75 7 v out.length (out.flatMap yFa.enc))∧Boxed X B 9 (.string T)∧Boxed X (B+1) 3 (.int .i64 wd)∧X.heap[B+2]? = some (.cells #[tab,wideA,.int .i8 want,join,raw] 26 (0,0))∧Below B W0 X
def RsS (B z:Nat) (T:ByteArray) (wd tab want:Int) (wideA join raw:Bool) (W0 X0:World) (out:List OneR) (X:World):Prop :=
 RsB B z T wd tab want wideA join raw W0 out X∧(z+6≤X0.heap.size→z+6≤X.heap.size)∧KeepsFrom (z+2) X0 X∧KpX (rsP z) B X0 X
section
variable {B z:Nat} {T:ByteArray} {wd tab want:Int} {wideA join raw:Bool} {W0 X0 X X':World} {out:List OneR}
theorem RsB.start (h:RsB B z T wd tab want wideA join raw W0 out X):RsS B z T wd tab want wideA join raw W0 X out X :=
 ⟨h,fun h=>h,KeepsFrom.refl _ _,Zc _ _,fun b cs t f _ a=>a⟩
theorem RsS.and {a:List OneR} (h:RsS B z T wd tab want wideA join raw W0 X0 out X) (k:RsS B z T wd tab want wideA join raw W0 X a X'):RsS B z T wd tab want wideA join raw W0 X0 a X' :=
 ⟨k.1,fun h0=>k.2.1 (h.2.1 h0),h.2.2.1.trans k.2.2.1,h.2.2.2.trans k.2.2.2⟩
theorem RsB.below (p:B+2<z) (q:z<X.heap.size) (h:RsB B z T wd tab want wideA join raw W0 out X) (a:Below X X X'):RsB B z T wd tab want wideA join raw W0 out X':=by
 obtain⟨⟨v,d,f⟩,g,i,j,l⟩:=h;have c:∀{b:Nat} {o:Obj},X.heap[b]? = some o→X'.heap[b]? = some o:=fun h=>(a.block _ (zH.1 h).1).trans h;have m:X.grownBy X' none:=⟨a.os,a.tape,a.output,a.size,fun k n _=>a.block k n⟩;exact⟨⟨v,c d,yAd f m (fun k e=>by cases e)⟩,c g,c i,c j,l.trans (a.mono (by omega))⟩
theorem RsS.below (c:B+2<z) (d:z<X.heap.size) (h:RsS B z T wd tab want wideA join raw W0 X0 out X) (a:Below X X X'):RsS B z T wd tab want wideA join raw W0 X0 out X':=by
 have e:∀{b:Nat} {o:Obj},X.heap[b]? = some o→X'.heap[b]? = some o:=fun h=>(a.block _ (zH.1 h).1).trans h;exact⟨h.1.below c d a,fun h0=>zY (h.2.1 h0) a.size,h.2.2.1.trans ((yR a).from _),h.2.2.2.trans ⟨a.mono (by omega),fun b cs t f _ g=>e g⟩⟩
theorem RsS.more {v c:Value} {x:OneR} (Q:B+2<z) (h:RsS B z T wd tab want wideA join raw W0 X0 out X) (C:Boxed X (z+1) 71 v)
 (a:X.ownsRow (z+6) 75 7 v out.length (out.flatMap yFa.enc)) (l:X.grownBy X' v.ownBlock)
 (r:X'.ownsRow (z+6) 75 7 c (out.length+1) (out.flatMap yFa.enc++yFa.enc x)):RsS B z T wd tab want wideA join raw W0 X0 (out++[x]) (X'.setCell ⟨z+1,0,none⟩ c):=by
 obtain⟨⟨_,s,D,E,F⟩,G,H,I⟩:=h;have u:=a.lt;have g:∀{b:Nat} {o:Obj},some b≠v.ownBlock→X.heap[b]? = some o→X'.heap[b]? = some o:=fun d a=>(l.block _ (zH.1 a).1 d).trans a;have m:∀{b:Nat},b<z+6→some b≠v.ownBlock:=fun d e=>by have:=u _ e.symm;omega
 have w:Below B X X':=(Zc B X).grown l (by have:=(zH.1 s).1;omega) (fun k J=>by have:=u k J;omega);have K:KeepsOthers X X':=qQ l (fun j o L n=>(yIw a j o L n).1);have M:=g (m (by omega)) C;have y:=yF2 X' (z+1) 0 c;have q:∀{b:Nat} {o:Obj},b≠z+1→X'.heap[b]? = some o→(X'.setCell ⟨z+1,0,none⟩ c).heap[b]? = some o:=fun d a=>(y.block _ (zH.1 a).1 (fun e=>by cases e;exact d rfl)).trans a;have N:=r.lt;have O:some (z+1)≠c.ownBlock:=fun e=>by have:=N _ e.symm;omega
 have A:Below B X' (X'.setCell ⟨z+1,0,none⟩ c):=(Zc _ _).setCell (p:=⟨z+1,0,none⟩) (by show B≤z+1;omega) _;refine⟨⟨⟨c,yM (i:=0) M c,?_⟩,q (by omega) (g (m (by omega)) s),q (by omega) (g (m (by omega)) D),q (by omega) (g (m (by omega)) E),(F.trans w).trans A⟩,fun h=>zY (zY (G h) l.size) (ZT _ _ _).size,(H.trans (K.from _)).trans ((ZT _ _ _).from _),I.trans ⟨w.trans A,fun b cs t f d n=>q (fun e=>d (.inr (.inl e))) (g (fun e=>?_) n)⟩⟩
 ·have:=r.kept y (.inr O.symm);rw [zJ,zU,zV];exact this
 ·obtain⟨_,R,S,P⟩:=yIw a b _ e.symm n;cases P;exact d (.inr (.inr rfl))
theorem RsB.stays (w:B+2<z) (l:B≤W0.heap.size) (h:RsB B z T wd tab want wideA join raw W0 out X) {row:Option Nat} (c:X.grownBy X' row)
 (d:∀r,row=some r→(z+2+2≤r∧r<z+2+2+2)∨(z+2≤r∧∃o:Obj,X.heap[r]? = some o∧o.isCells=false)):RsB B z T wd tab want wideA join raw W0 out X':=by
 obtain⟨⟨v,m,i⟩,n,p,q,j⟩:=h;have a:∀k,k<z+2→∀o,X.heap[k]? = some o→X'.heap[k]? = some o:=fun k a o b=>(c.block k (zH.1 b).1 (fun e=>by rcases d k e.symm with h | ⟨h,_⟩ <;> omega)).trans b;have s:v.ownBlock=none∨v.ownBlock≠row:=by
  rcases i.2 with ⟨f,_⟩ | ⟨g,x,y,f,A,t,_⟩
  ·exact .inl (by rw [f];rfl)
  ·refine .inr (fun e=>?_);rw [f] at e;rcases d g e.symm with h | ⟨_,o,b,u⟩
   ·omega
   ·rw [t] at b;cases b;cases u
 exact⟨⟨v,a _ (by omega) _ m,i.kept c s⟩,a _ (by omega) _ n,a _ (by omega) _ p,a _ (by omega) _ q,j.grown c (zY l j.size) (fun k e=>by rcases d k e with h | ⟨h,_⟩ <;> omega)⟩
end
theorem yMf (T:ByteArray) (hs:T.size≤65536) (E f j:Int) (q F A:Bool) (hn:(pageI T E f j q A).length≤1000000) (w:World) (hT:T8 w) (hD:DB w) :
 Calls Tryz.prog 33 #[T,E,.agg #[f,q,.int .i8 j,F,A]] w fun e w'=>∃M cap,e=.returned (.tuple #[.slice M (pageI T E f j q A).length cap,true]) ∧
  yN yFa 75 w' w.heap.size (.slice M (pageI T E f j q A).length cap) (pageI T E f j q A)∧Below w w w':=by
 have HG:Hid (pageI T E f j q A=yEs T E f j q A (linesI T) []):=lh rfl;obtain⟨e6,b0⟩:∃r,pageI T E f j q A=r:=⟨_,rfl⟩;rw [b0] at HG hn ⊢;have h3:Tryz.lays197_ren.g 3<w.heap.size:=yD (hT.1 0 (by omega));have h4:Tryz.lays197_ren.g 4<w.heap.size:=yD (hT.2 0 (by omega)).1;obtain⟨B,N⟩:=nm (w.heap.size);have HT:=lh (fun (W:World) (h:Below w w W)=>(⟨hT.below rfl h,hD.below h⟩:T8 W∧DB W));have i7:=Tryz.info_seen;obtain⟨i5,i9,j0,j1,j2⟩:=info_parts i7;have e7:=lh (fun p (hp:p∈linesI T)=>yOh T _ (yIp T hs) p hp);have e8:=lh (cut_no T hs);clear hT hD b0;refine (qG (n:=4)).1 ?_;refine qI Tryz.func33 rfl trivial ?_ rfl;simp only [Tryz.ntmps33,qW,zb,zn,Nat.reduceAdd,Nat.reduceSub,qX,qY,qZ,qd,zp,zo];gi_upto_region 1 with fail;have m1:=zL w (.cells #[T] 9);have a3:∀(W:World) (o:Obj),Below W W (W.alloc o):=fun W o=>(Zc _ _).alloc (zT _) _;have d3:=a3 w (.cells #[T] 9);have a4:=zM w (.cells #[T] 9);generalize w.alloc _=W1 at m1 d3 a4 ⊢;have m2:=zL W1 (.cells #[E] 3);have a5:=a3 W1 (.cells #[E] 3);have a6:=zM W1 (.cells #[E] 3);generalize W1.alloc _=W2 at m2 a5 a6 ⊢;have m3:=zL W2 (.cells #[f,q,.int .i8 j,F,A] 26);have J:=a3 W2 (.cells #[f,q,.int .i8 j,F,A] 26);have d4:=zM W2 (.cells #[f,q,.int .i8 j,F,A] 26);generalize W2.alloc _=W3 at m3 J d4 ⊢;rw [N] at m1 a4 h3 h4;rw [a4] at m2 a6 a5;rw [a6] at m3 d4 J
 try rw [a6]
 try rw [a4]
 try rw [N]
 have n1:=(J.block B (by omega)).trans ((a5.block B (by omega)).trans m1);have n2:=(J.block (B+1) (by omega)).trans m2;have e9:Below B w W3:=N▸(d3.trans (a5.mono (by omega))).trans (J.mono (by omega));have c1:=qc1 n1;obtain⟨l0,l1,l2,l3,l4⟩:=qc5 m3;gi_upto_region 2 with fail;have m4:=zL W3 (.cells #[T,f,q,.int .i8 j,F,A,.slice none 0 0] 155);have j3:=a3 W3 (.cells #[T,f,q,.int .i8 j,F,A,.slice none 0 0] 155);have j4:=zM W3 (.cells #[T,f,q,.int .i8 j,F,A,.slice none 0 0] 155);generalize W3.alloc _=W4 at m4 j3 j4 ⊢;have m5:=zL W4 (.cells #[.pointer (some ⟨B+1+1+1,0,none⟩)] 145);have K1:=lh n1;have K2:=lh n2;have K3:=lh m3;have f0:=lh e9;have f1:W3.heap.size=B+1+1+1:=by omega
 clear m1 m2 m3 n1 n2 d3 a5 J e9 a4 a6 d4 l0 l1 l2 l3 l4 a3;gi_wp2;refine⟨trivial,?_⟩;refine (qG.2 (yQv T W3 _ f1)).mono ?_;rintro e' W6 ⟨rfl,d7,a1,d8⟩;obtain⟨z,j5⟩:=nm (B+1+1+1);rw [j5] at d7 f1 d8 ⊢;have n3:=a1.size;have q1:=(a1.block B (by omega)).trans K1.out;have q2:=(a1.block (B+1) (by omega)).trans K2.out;have q3:=(a1.block (B+2) (by omega)).trans K3.out;have q6:Below B w W6:=f0.out.trans (a1.mono (by omega));have j6:=fun w=>eq_fn (.func 56) #[] #[.pointer (some ⟨z,0,none⟩)] w;have f2:=lh d7;clear c1 a1 d7 K1 K2 K3 f0;gi_upto_region 5 with fail;have b6:=zL W6 (.cells #[.slice none 0 0] 71);have S:=qal W6 (.cells #[.slice none 0 0] 71);have a7:=zM W6 (.cells #[.slice none 0 0] 71);generalize W6.alloc _=W7 at b6 S a7 ⊢;rw [d8] at b6 a7
 try rw [d8]
 have s1:=(S.block B (by omega)).trans q1;have s2:=(S.block (B+1) (by omega)).trans q2;have s3:=(S.block (B+2) (by omega)).trans q3;have s4:=(S.block z (by omega)).trans f2.out;have s6:Below B w W7:=q6.trans (S.mono (by omega));have f3:=HT.out W7 (N▸s6);have f4:RsB B z T E f j q F A w [] W7:=⟨⟨_,b6,Zx _ _ _ _⟩,s1,s2,s3,s6⟩;have j7:=lh f4;have j8:=lh f3;clear q1 q2 q3 q6 b6 S s1 s2 s3 s6 f4 f3 f2 j6;gi_wp2;refine yCt (by omega) (gf:=56) (lb:=#[.pointer (some ⟨z,0,none⟩)]) rfl trivial (qJ Tryz.func56 (by kernel_rfl) rfl)
  (yK7 z B (rsP z) T (by omega) h3 h4 W7 (by omega) s4 j8.out.1 (fun h=>by rcases h with h | h | h;exact qF h (by omega);exact qF h (by omega);exact qF h (by decide)) (fun b t hb ht h=>by rcases h with h | h | h;exact qF h (by omega);exact qF h (by omega);rcases ht with e | e | e <;> (rw [e] at h;exact qF h (by decide))))
  (fun h k=>KpX.trans h k) (kpX_put (w:=W7) (by omega)) (Zc _ _) (fun _=>rfl)
  (fun pre X=>∃H,pre.map (·.1)=(linesI T).take pre.length∧e6=yEs T E f j q A ((linesI T).drop pre.length) H∧RsB B z T E f j q F A w H X)
  (fun _ _ _=>False) ?hI (fun _ _ _ _ _ h _ _=>h) ?h0
  (fun x=>{ tmps:=#[.string T,.int .i64 E,.agg #[.int .i64 f,.bool q,.int .i8 j,.bool F,.bool A],.pointer (some ⟨B,0,none⟩),.pointer (some ⟨B+1,0,none⟩),.pointer (some ⟨B+1+1,0,none⟩),.slice none 0 0,.bool false,.func (.func 56) #[] #[.pointer (some ⟨z,0,none⟩)],.pointer (some ⟨z+1,0,none⟩),.int .i64 x.1.1,.string x.1.2,undef,undef,undef,undef,.string T,.func (.func 56) #[] #[.pointer (some ⟨z,0,none⟩)],.func (.func 56) #[] #[.pointer (some ⟨z,0,none⟩)],.bool false,.func (.func 56) #[] #[.pointer (some ⟨z,0,none⟩)],.int .i64 x.1.1,.string x.1.2,undef,undef,undef,undef,undef,undef,undef,undef,undef,undef,undef,undef,undef,undef,undef,undef,undef,undef,undef,undef,undef,undef,undef,undef,undef,undef,undef,undef,undef,undef,undef,undef,undef,undef,undef,undef,undef,undef,undef,undef,undef,undef,undef,undef,undef,undef,undef,undef,undef,undef,undef,undef,undef],defers:=[] }) ?assign ?body ?done ?stop
 case hI =>
  rintro pre X X' row ⟨H,r1,L,r5⟩ hg f5;rw [a7] at f5;exact⟨H,r1,L,r5.stays (by omega) (by omega) hg f5⟩
 case h0=>exact⟨[],rfl,by rw [HG.out];rfl,j7.out⟩
 case assign =>
  intro l' x W' K hK;gi_wp2;exact hK
 case body =>
  rintro l' pre x X ⟨H,r1,L,r5⟩ j9 k5;rw [a7] at k5;obtain⟨C,b8⟩:∃a,x.1.1=a:=⟨_,rfl⟩;obtain⟨d,b9⟩:∃c,x.1.2=c:=⟨_,rfl⟩;have hx:=x.2;rw [b8,b9] at hx;obtain⟨R,hR⟩:=j9;have c0:(linesI T).drop pre.length=x.1::R:=by
   rw [←hR,zW,zZ,zz (by rw [zK]),ZA,ZN]
  have f6:(linesI T).drop (pre++[x]).length=R:=by
   rw [←hR,zz (by rw [zK])]
  have f7:(linesI T).take (pre++[x]).length=(pre++[x]).map (·.1):=by
   rw [←hR,List.take_left' (by rw [zK])]
  have c2:x.1=(C,d):=(by rw [←b8,←b9]);rw [c0,yEs,c2] at L;obtain⟨st,a2⟩:∃s,yGx T E f j q A H (C,d)=s:=⟨_,rfl⟩;have d9:=yKe T E f j q A H (C,d);have f8:=yQh T E f j q A R st;rw [a2] at L d9;rw [←L] at f8;simp only [b8,b9];obtain⟨I,c4⟩:∃r,rowsI d E f j q A=r:=⟨_,rfl⟩;obtain⟨n,c5⟩:=nm (I.length);have k6:st.length=H.length+n:=(by rw [d9,←c5,←c4]);have n4:H.length+n≤1000000:=(by omega);have f9:cutL T (C,d)=false:=e8.out _ (List.mem_of_mem_drop (i:=pre.length) (by rw [c0,c2];exact zR ..));have e0:=e7.out _ (List.mem_of_mem_drop (i:=pre.length) (by rw [c0,c2];exact zR ..):(C,d)∈linesI T);have n5:C+d.size≤T.size:=(by obtain⟨⟨_,⟨k,hk⟩,_⟩,_⟩:=e0;exact hk.1);have g0:C+d.size<T.size→yDt d=true:=fun h=>by
   rcases e0.2 with h2 | h2
   ·exact qF h2 (by show ¬ (C+d.size=T.size);omega)
   ·exact h2
  have k7:=lh g0;unfold yGx at a2;rw [Zf (by rw [f9];decide)] at a2;rw [c4] at a2;have g1:=lh (fun (W:World) (h:Below w w W)=>(Rows_any d E f j q F A W (HT.out W h).1 (HT.out W h).2).mono (fun e w' h=>(by rw [c4,c5] at h;exact h:∃M cap,e=.returned (.slice M n cap)∧yF3 w' W.heap.size (.slice M n cap) I∧Below W W w')));obtain⟨wh,c6⟩:∃l,ye d=l:=⟨_,rfl⟩;obtain⟨wl,c7⟩:∃n,wh.length=n:=⟨_,rfl⟩;have g3:=lh c6;have c8:=lh c7;have g4:=lh (fun (W:World) (h:Below w w W)=>(yMl d W (HT.out W h).1 (by omega)).mono (fun e w' h=>(by rw [c6,c7] at h;exact h:∃a c,e=.returned (.slice a wl c)∧yG .i8 22 w' W.heap.size a c wh∧Below W W w')));have n6:wl≤65536:=by
   rw [←c7,←c6,yFg];have:=yAj d;omega
  clear c6 c7;have k8:=lh a2;have k9:=lh f6;have l5:=lh f7;have e1:=lh c5;have l6:=lh L;have S0:=lh (RsB.start r5);obtain⟨⟨v0,_,_⟩,_,b4,b5,b7⟩:=r5;have c1:=b4.cell;obtain⟨k0,k1,k2,k3,k4⟩:=qc5 b5;have g5:=g1.out X (N▸b7);have HC:=lh g5;clear b8 b9 hR c0 f6 f7 r1 L c4 b4 b5 b7 c5 HG a2 d9 k6 f8 c2 g5 g1 f9 e0 g0 e8 e7;gi_wp2;refine⟨trivial,?_⟩;refine (qG.2 HC.out).mono ?_;rintro e' Y ⟨M,cap,rfl,hO,e2⟩;clear HC c1 k0 k1 k2 k3 k4;have n7:=e2.size;have S1:=lh (RsS.below (by omega) (by omega) S0.out e2);have HO:=lh hO;clear hO e2 S0;gi_wp2;have g6:Below w w Y:=N▸(S1.out.1.2.2.2.2);have g7:=lh (g4.out Y g6);clear g6 g4;gi_wp2;refine⟨trivial,?_⟩;refine (qG.2 g7.out).mono ?_;rintro e' V ⟨wa,wc,rfl,g8,O⟩;have n8:=O.size;have S2:=lh (RsS.below (by omega) (by omega) S1.out O);have g9:Y.grownBy V none:=⟨O.os,O.tape,O.output,O.size,fun k hk _=>O.block k hk⟩;have h5:=lh (yAd HO.out g9 (fun k e=>by cases e));have h6:=lh g8;clear g8 O g9 g7 HO;gi_wp2;gi_loopw [14,15] (fun u14 _ wr=>∃(i:Nat),i≤n∧u14=.int .i64 i∧RsS B z T E f j q F A w V (H++oneL (C,d) (I.take i)) wr) (fun u14 _ _=>n-(intOf u14).toNat)
  case atStart=>exact⟨0,zd _,rfl,by rw [Zj];show RsS B z T E f j q F A w V (H++[]) V;rw [zq];exact RsB.start S2.out.1⟩
  case round =>
   obtain⟨i,n9,rfl,P⟩:=hrel;by_cases o0:i<n
   ·obtain⟨r,hr⟩:∃r,I[i]? = some r:=⟨_,zF (by have:=e1.out;omega)⟩;have h7:yF3 wr X.heap.size (.slice M n cap) I:=own_kpl h5.out P.2.2.2 (fun b hb h=>by rcases h with h | h | h;omega;omega;exact qF h (by decide));have h8:RdR wr M I:=yF3.rd (by rw [e1.out];exact h7);obtain⟨b,o1,eb,_,x0,x1,x2,x3,x4⟩:=h8.at i r hr;subst eb;have h9:oneL (C,d) (I.take (i+1))=oneL (C,d) (I.take i)++[⟨r,C,d⟩]:=by
     unfold oneL;rw [yE2 hr,zW,ZA]
    have o2:(i:Int)<(n:Int):=(by omega);have l7:=lh h9;have HS:=lh P;have l8:z+6≤wr.heap.size:=P.2.1 (by omega);have c9:=h6.out;unfold yG at c9;rw [c8.out] at c9;have i0:=lh (own_kpl c9 P.2.2.2 (fun b hb h=>by rcases h with h | h | h;omega;omega;exact qF h (by decide)));clear h7 h8 h9 hr P c9;gi_upto_region 14 with fail;have Q:=qal wr (.cells #[r.a,r.len,.int .u8 r.level,r.wide,.int .i8 r.fin] 24);have d0:=zL wr (.cells #[r.a,r.len,.int .u8 r.level,r.wide,.int .i8 r.fin] 24);have e3:=zM wr (.cells #[r.a,r.len,.int .u8 r.level,r.wide,.int .i8 r.fin] 24);generalize wr.alloc _=Z at Q d0 e3 ⊢;obtain⟨Rb,l9⟩:∃R,wr.heap.size=R:=⟨_,rfl⟩;have SZ:=lh (RsS.below (by omega) (by omega) HS.out Q);have i1:=yAd i0.out (show wr.grownBy Z none from ⟨Q.os,Q.tape,Q.output,Q.size,fun k hk _=>Q.block k hk⟩) (fun k e=>by cases e);rw [l9] at d0 e3 l8 ⊢;obtain⟨y0,y1,y2,y3,y4⟩:=qc5 d0;obtain⟨⟨⟨v,v1,v2⟩,v3,_,_,_⟩,_⟩:=SZ.out;have V1:=lh v1;have V2:=lh v2;have c1:=v1.cell;have c3:=v3.cell;have o3:IntKind.i64.wrap ((n:Int)-1)=(n:Int)-1:=(by rw [ZH];omega);have o4:IntKind.i64.wrap ((C:Int)+(d.size:Int))=(C:Int)+d.size:=(by rw [ZH];omega);have o5:(H++oneL (C,d) (I.take i)).length+1≤1000000:=by
     rw [zJ];unfold oneL;rw [zK,za];omega
    have m0:=lh i1;clear Q d0 e3 v1 v2 v3 HS i0 i1 x0 x1 x2 x3 x4;have m6:Hid (∀(v':Value) (U:World),U.ownsRow (z+6) 75 7 v' ((H++oneL (C,d) (I.take i)).length+1) ((H++oneL (C,d) (I.take i)).flatMap yFa.enc++[.int .i64 r.a,.int .i64 r.len,.int .u8 r.level,.int .i64 r.wide,.int .i8 r.fin,.int .i64 C,.string d]) →
     (Z.alloc (.cells #[r.a,r.len,.int .u8 r.level,r.wide,.int .i8 r.fin,C,d] 75)).grownBy U v.ownBlock→RsS B z T E f j q F A w V (H++oneL (C,d) (I.take (i+1))) (U.setCell ⟨z+1,0,none⟩ v')):=lh fun v' U a8 a9=>by
     have m7:=qal Z (.cells #[r.a,r.len,.int .u8 r.level,r.wide,.int .i8 r.fin,C,d] 75);have o6:z+6≤Z.heap.size:=SZ.out.2.1 (by omega);have h1:=RsS.below (by omega) (by omega) SZ.out m7;have h2:=RsS.more (x:=⟨r,C,d⟩) (by omega) h1 (V1.out.alloc _) (V2.out.alloc _) a9 a8;rw [zZ,←l7.out] at h2;exact h2
    have m8:(((i:Int)==(n:Int)-1)=false)∨(((i:Int)==(n:Int)-1)=true∧((C:Int)+(d.size:Int)<(T.size:Int))=False)∨(((i:Int)==(n:Int)-1)=true∧((C:Int)+(d.size:Int)<(T.size:Int))=True∧yDt d=true):=by
     by_cases g:(i:Int)=(n:Int)-1
     ·by_cases g2:(C:Int)+(d.size:Int)<(T.size:Int)
      ·exact .inr (.inr ⟨ZD.2 g,eq_true g2,k7.out (by omega)⟩)
      ·exact .inr (.inl ⟨ZD.2 g,eq_false g2⟩)
     ·exact .inl (zN.2 g)
    rcases m8 with d1 | ⟨d1,d2⟩ | ⟨d1,d2,a0⟩
    case' inl =>
     refine yc (by kernel_rfl) (fun _ _ h=>h) ?_;go_wp2;gi_upto_region 16 with fail
    case' inr.inl =>
     refine yc (by kernel_rfl) (fun _ _ h=>h) ?_;go_wp2;gi_upto_region 16 with fail
    case' inr.inr =>
     obtain⟨m,hm⟩:∃m,wl=m+1:=by
      cases wl with
      | zero =>
        have h0:wh=[]:=ZE.1 c8.out;unfold yDt at a0;rw [g3.out,h0] at a0;exact qF a0 (by decide)
      | succ m=>exact⟨m,rfl⟩
     subst hm;obtain⟨u,hu⟩:∃u,wh[m]? = some u:=⟨_,zF (by have:=c8.out;omega)⟩;have m9:u=2:=by
      unfold yDt at a0;rw [g3.out,yMy wh m u c8.out hu] at a0;exact JZ a0
     subst m9;obtain⟨G,eG,_,_,e4,i2,i3⟩:=(by obtain⟨a',c',e,h⟩:=yEe m0.out;cases e;exact h (by omega):∃G,wa=some ⟨G,0,none⟩∧_≤G∧G<Z.heap.size∧∃e4:Array Value,Z.heap[G]? = some (.cells e4 22 (0,0))∧∀(i:Nat) (y:Value),(wh.map (Value.int .i8))[i]? = some y→e4[i]? = some y);subst eG;have cw:Z.cell? ⟨G,m,none⟩=some (.int .i8 2):=by
      have:=i3 m (.int .i8 2) (by rw [zm,hu];rfl);simp [World.cell?,i2,this]
     have o7:IntKind.i64.wrap (((m+1:Nat):Int)-1)=(m:Int):=(by rw [ZH];omega);have o8:IntKind.i64.wrap ((m:Int)+1-1)=(m:Int):=(by rw [ZH];omega);have o9:IntKind.i64.wrap (m:Int)=(m:Int):=(by rw [ZH];omega);have dm:(((m+1:Nat):Int)==0)=false:=zN.2 (by omega);have p0:(((m:Int)+1)==0)=false:=zN.2 (by omega);clear a0 hu i2 i3;refine yc (by kernel_rfl) (fun _ _ h=>h) ?_;go_wp2;gi_upto_region 16 with fail
    all_goals
     gi_wp2_with (gi_at_builtin;refine Zz _ rfl _ _ 71 rfl (z+6) 75 i5 _ 7 64 Tryz.underlying71 i9 j0 j1 j2 rfl (by decide) v _ _ rfl (V2.out.alloc _) ⟨Z,0,none⟩ 1 1 [r.a,r.len,.int .u8 r.level,r.wide,.int .i8 r.fin,C,d] rfl rfl (newS _ _ _) (by simp [Value.oneCell']) (by unfold maxLen;omega) (by omega) (by rw [zM];omega) ?_;intro v' U a8 a9 _;obtain⟨g',p1,rfl⟩:=ownsRow_succ a8;have HF:=lh (m6.out _ U a8 a9);have J:Boxed U (z+1) 71 v:=(V1.out.alloc _).kept a9 (fun e=>by have:=((V2.out.alloc (.cells #[r.a,r.len,.int .u8 r.level,r.wide,.int .i8 r.fin,C,d] 75)).lt _ e.symm).1;omega);have d5:=J.cell;have d6:=J.frozen;clear a8 a9 J);exact⟨⟨i+1,by omega,by go_num,by have h:=HF.out;rw [zJ] at h;exact h⟩,by simp [intOf];omega⟩
   ·obtain rfl:i=n:=(by omega);rw [qU (by have:=e1.out;omega)] at P;have i4:RsS B z T E f j q F A w V st wr:=(by rw [←k8.out];exact P);have e5:=lh (RsS.and S2.out i4);clear P i4 h5 h6;gi_wp2;exact⟨by rw [a7];exact e5.out.2.2.1,e5.out.2.2.2,st,l5.out.symm,by rw [k9.out];exact l6.out,e5.out.1⟩
 case done =>
  rintro D xs W hD i6 ⟨H,r1,L,⟨v,b1,b2⟩,b3,b4,b5,b7⟩ hK;have hl:xs.length=(linesI T).length:=(by rw [←i6,zK]);have b0:e6=H:=(by rw [L,hl,Zi,yEs]);have c1:=b1.cell;have HV:=lh b2;have n0:=lh b7;subst b0;clear r1 L b1 b2 b3 b4 b5 b7 i6 hl HG;gi_wp2;obtain⟨va,vc,rfl,_⟩:=yI6 HV.out;refine⟨by simp,.inl ⟨_,_,rfl,Zv hK,?_⟩⟩;refine⟨_,results_tmp2 rfl _ _ _,va,vc,rfl,?_,?_⟩
  ·rw [N];exact yq (ownsRow_putObj HV.out _ hK rfl) (by omega)
  ·rw [N];exact n0.out.trans (JY (w:=w) (by omega) W D _ _ (by omega) hK rfl rfl)
 case stop =>
  rintro D c pre W hD _ h _;exact h.elim
theorem yOe (T:ByteArray) (hs:T.size≤65536) (wd tab want:Int) (wideA raw:Bool) {i:Nat} {x:OneR} (hx:(pageI T wd tab want wideA raw)[i]? = some x) (a:Int) (b:0≤a):0≤yBv a (pageI T wd tab want wideA raw) 0 (-1) :=
 yPd T hs wd tab want wideA raw a b (fun e=>by rw [e] at hx;simp at hx)
section
variable (T:ByteArray) (hs:T.size≤65536) (wd tab want:Int) (wideA join raw:Bool) (L:List OneR) (hL:pageI T wd tab want wideA raw=L) (hn:L.length≤1000000) (i j:Nat) (x:OneR) (hx:L[i]? = some x) (st s:St) (hst:(stK tab want wideA join raw x)[j]? = some st) (cw:Int)
include hs hL hn hx hst
end
theorem yOw (a:ByteArray):(a.extract 0 (min a.size 2000)).size≤2000:=by
 rw [yCh a 0 _ (zd _) (Nat.min_le_left _ _)];omega
theorem yKk {L:List OneR} {c W:World} {base cap:Nat} {d:Option Addr} (e:yN yFa 75 c base (.slice d L.length cap) L) (j:Below c c W) (i:Nat) (x:OneR) (f:L[i]? = some x) :
 ∃G,d=some ⟨G,0,none⟩∧G<c.heap.size∧W.cell? ⟨G,i*7,none⟩=some (.int .i64 x.r.a)∧W.cell? ⟨G,i*7+1,none⟩=some (.int .i64 x.r.len)∧W.cell? ⟨G,i*7+2,none⟩=some (.int .u8 x.r.level)∧W.cell? ⟨G,i*7+3,none⟩=some (.int .i64 x.r.wide) ∧
   W.cell? ⟨G,i*7+4,none⟩=some (.int .i8 x.r.fin)∧W.cell? ⟨G,i*7+5,none⟩=some (.int .i64 x.at')∧W.cell? ⟨G,i*7+6,none⟩=some (.string x.line):=by
 obtain⟨G,g,_,k,_,_⟩:=e.at i x f;obtain⟨l,h,_,_,b,_⟩:=(e.keep j).at i x f;obtain rfl:G=l:=by rw [g] at h;cases h;rfl
 exact⟨G,g,k,b 0 _ rfl,b 1 _ rfl,b 2 _ rfl,b 3 _ rfl,b 4 _ rfl,b 5 _ rfl,b 6 _ rfl⟩
end
end Go.Proofs.YtncplikdjcmoeaaGreatDoor
