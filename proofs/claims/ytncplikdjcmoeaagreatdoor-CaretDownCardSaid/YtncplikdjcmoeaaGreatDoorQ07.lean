/- Lemmas, part 7: no further condition than each states. -/
import Derived.Test.YtncplikdjcmoeaaGreatDoorQ06
namespace Go.Proofs.YtncplikdjcmoeaaGreatDoor
set_option linter.unusedVariables false
set_option linter.unusedSimpArgs false
set_option maxRecDepth 100000
set_option maxHeartbeats 4000000
section
def yLv (tab:Int) (wd raw:Bool):List ByteArray→Int→Int
 | [],x=>x
 | c::t,x=>yLv tab wd raw t (x+(yx c x tab wd raw).2)
theorem yL3 (a:Int) (b d:Bool):∀(l m:List ByteArray) (x:Int),yLv a b d (l++m) x=yLv a b d m (yLv a b d l x)
 | [],_,_=>rfl
 | c::t,m,x=>by rw [zo,yLv,yLv,yL3 a b d t]
theorem wideF_le (a:Int) (b d:Bool):∀(l:List ByteArray) (x:Int),x≤yLv a b d l x
 | [],_=>Zr _
 | c::t,x=>by
   have e:=wideF_le a b d t (x+(yx c x a b d).2);have f:=(yGj c x a b d).1;rw [yLv];omega
def wOf (r:Rul) (P:List ByteArray):Int:=yLv r.tab r.wideA r.raw P 0
theorem wOf_nil (r:Rul):wOf r []=0:=rfl
theorem wOf_snoc (r:Rul) (P:List ByteArray) (x:ByteArray):wOf r (P++[x])=wOf r P+(yx x (wOf r P) r.tab r.wideA r.raw).2:=by
 unfold wOf;rw [yL3];rfl
theorem wOf_pre (r:Rul) (P Q:List ByteArray):wOf r P≤wOf r (P++Q):=by
 unfold wOf;rw [yL3];exact wideF_le _ _ _ _ _
def Fits (r:Rul) (P:List ByteArray) (x:Int):Prop:=x=wOf r P∨(x≤wOf r P∧r.w<wOf r P)
def szs:List ByteArray→Nat
 | []=>0
 | c::t=>c.size+szs t
theorem szs_app:∀(l m:List ByteArray),szs (l++m)=szs l+szs m
 | [],m=>by simp [szs]
 | c::t,m=>by rw [zo,szs,szs,szs_app t];omega
def FlP (r:Rul) (a n:Nat) (P M:List ByteArray) (s:Fl):Prop :=
 s.a=a+szs P∧s.n=n+P.length∧s.ma=a+szs M∧s.mn=n+M.length∧(s.hangs=false→s.wide=wOf r P)∧(s.hangs=true→s.wide≤wOf r P∧r.w<wOf r P)∧0≤s.wide∧s.wide≤r.w ∧
 Fits r M s.mw∧0≤s.mw∧s.mw≤r.w∧M <+: P∧(M=[]∨yH r.wh (n+M.length-1)=1)
theorem FlP.start (r:Rul) (hw:0≤r.w) (a n:Nat):FlP r a n [] [] (fl0 a n) :=
 ⟨rfl,rfl,rfl,rfl,fun _=>rfl,(fun h=>by cases h),Zr _,hw,.inl rfl,Zr _,hw,List.prefix_refl _,.inl rfl⟩
theorem FlP.fits {r:Rul} {a n:Nat} {P M:List ByteArray} {s:Fl} (h:FlP r a n P M s):Fits r P s.wide:=by
 obtain⟨_,_,_,_,b,c,_⟩:=h;cases hh:s.hangs with
 | false=>exact .inl (b hh)
 | true=>exact .inr (c hh)
theorem FlP.adv {r:Rul} {a n:Nat} {P M:List ByteArray} {s:Fl} (h:FlP r a n P M s) (x:ByteArray) (d:Bool) (c:Int) (z:0≤c) (j:s.wide+c≤r.w)
 (f:d=false→s.wide+c=wOf r (P++[x])) (g:d=true→s.wide+c≤wOf r (P++[x])∧r.w<wOf r (P++[x])) :
 ∃k,FlP r a n (P++[x]) k (adv r.wh x.size { s with hangs:=d,c:=c }):=by
 obtain⟨l,m,o,p,A,B,C,D,q,t,u,v,y⟩:=h;have i:s.a+x.size=a+szs (P++[x]):=by rw [szs_app,szs,szs,l];omega
 have e:s.n+1=n+(P++[x]).length:=by rw [zJ,m];simp;omega
 by_cases b:yH r.wh s.n=1
 ·refine⟨P++[x],i,e,?_,?_,f,g,?_,j,?_,?_,?_,List.prefix_refl _,.inr ?_⟩
  ·show (if yH r.wh s.n=1 then s.a+x.size else s.ma)=_;rw [Zg b,i]
  ·show (if yH r.wh s.n=1 then s.n+1 else s.mn)=_;rw [Zg b,e]
  ·show 0≤s.wide+c;omega
  ·show Fits r _ (if yH r.wh s.n=1 then s.wide+c else s.mw);rw [Zg b];cases d with
   | false=>exact .inl (f rfl)
   | true=>exact .inr (g rfl)
  ·show 0≤(if yH r.wh s.n=1 then s.wide+c else s.mw);rw [Zg b];omega
  ·show (if yH r.wh s.n=1 then s.wide+c else s.mw)≤_;rw [Zg b];omega
  ·rw [←e,Ze];exact b
 ·refine⟨M,i,e,?_,?_,f,g,?_,j,?_,?_,?_,v.trans (List.prefix_append _ _),y⟩
  ·show (if yH r.wh s.n=1 then s.a+x.size else s.ma)=_;rw [Zf b,o]
  ·show (if yH r.wh s.n=1 then s.n+1 else s.mn)=_;rw [Zf b,p]
  ·show 0≤s.wide+c;omega
  ·show Fits r _ (if yH r.wh s.n=1 then s.wide+c else s.mw);rw [Zf b];exact q
  ·show 0≤(if yH r.wh s.n=1 then s.wide+c else s.mw);rw [Zf b];exact t
  ·show (if yH r.wh s.n=1 then s.wide+c else s.mw)≤_;rw [Zf b];exact u
theorem fill_law (r:Rul) (hw:0≤r.w) (a n:Nat):∀(L P M:List ByteArray) (s:Fl),FlP r a n P M s →
 ∃d f Q R g,yAg r L s=(d,f)∧L=Q++R∧FlP r a n (P++Q) g { d with c:=0 }∧(f=false→R=[]) ∧
   (f=true→∃x k,R=x::k∧r.w<wOf r (P++Q++[x])∧d.c=(yx x d.wide r.tab r.wideA r.raw).2)
 | [],P,M,s,h=>⟨s,false,[],[],M,rfl,rfl,by rw [zq];exact h,fun _=>rfl,fun h=>by cases h⟩
 | x::t,P,M,s,h=>by
   have l:=h;obtain⟨H,I,J,K,m,p,N,O,S,T,U,V,W⟩:=h;have q:=yGj x s.wide r.tab r.wideA r.raw;have v:=wOf_snoc r P x;have X:=wOf_pre r P [x];have u:∀j:Fl,(∃g,FlP r a n (P++[x]) g j)→∃d f Q R g,yAg r t j=(d,f)∧x::t=Q++R∧FlP r a n (P++Q) g { d with c:=0 }∧(f=false→R=[]) ∧
    (f=true→∃x k,R=x::k∧r.w<wOf r (P++Q++[x])∧d.c=(yx x d.wide r.tab r.wideA r.raw).2):=by
    rintro j ⟨g,y⟩;obtain⟨d,f,Q,R,z,A,B,C,D,E⟩:=fill_law r hw a n t (P++[x]) g j y;refine⟨d,f,x::Q,R,z,A,by rw [B];rfl,?_,D,?_⟩
    ·rw [show P++x::Q=P++[x]++Q by simp];exact C
    ·rw [show P++x::Q=P++[x]++Q by simp];exact E
   rw [yAg];unfold yFz;by_cases o:yKg x=true∧(s.hangs=true∨r.w<s.wide+(yx x s.wide r.tab r.wideA r.raw).2)
   ·rw [Zg o,Zf (by simp)];refine u _ (l.adv x true 0 (Zr _) (by omega) (fun h=>by cases h) (fun _=>?_));cases b:s.hangs with
    | true =>
      have:=p b;omega
    | false =>
      have e:=m b;rcases o.2 with c | c
      ·rw [b] at c;cases c
      ·rw [e] at c q;omega
   ·rw [Zf o];by_cases i:s.hangs=true∨r.w<s.wide+(yx x s.wide r.tab r.wideA r.raw).2
    ·rw [Zg i,Zg rfl];refine⟨_,true,[],x::t,M,rfl,rfl,by rw [zq];exact l,(fun h=>by cases h),fun _=>⟨x,t,rfl,?_,rfl⟩⟩;rw [zq];cases b:s.hangs with
     | true=>have:=p b;omega
     | false =>
       have e:=m b;rcases i with c | c
       ·rw [b] at c;cases c
       ·rw [e] at c;omega
    ·rw [Zf i,Zf (by simp)];have b:s.hangs=false:=by
      cases b:s.hangs with
      | false=>rfl
      | true=>exact qF (.inl b) i
     have e:=m b;have F:s.wide+(yx x s.wide r.tab r.wideA r.raw).2≤r.w:=by
      by_cases G:r.w<s.wide+(yx x s.wide r.tab r.wideA r.raw).2
      ·exact qF (.inr G) i
      ·omega
     refine u _ ?_;have:=l.adv x s.hangs (yx x s.wide r.tab r.wideA r.raw).2 q.1 F (fun _=>by rw [v,e]) (fun h=>by rw [b] at h;cases h);exact this
theorem szs_zero {T:ByteArray}:∀{P R:List ByteArray} {a f:Nat},(piecesF T f a).map (·.2)=P++R→szs P=0→P=[]
 | [],_,_,_,_,_=>rfl
 | c::P,R,a,f,h,hz=>by
   exfalso;cases f with
   | zero=>rw [piecesF] at h;cases h
   | succ f =>
     rw [piecesF] at h;by_cases b:a<T.size
     ·rw [Zg b,Zd,zo] at h;obtain⟨d,_⟩:=List.cons.inj h;have e:=yY (T.extract a T.size) (by rw [yJ T a (by omega)];omega);rw [yJ T a (by omega)] at e;have:c.size=nextI (T.extract a T.size):=(by rw [←d];simp [ZV];omega);rw [szs] at hz;omega
     ·rw [Zf b] at h;cases h
theorem row_law (r:Rul) (hw:1≤r.w) (T:ByteArray) (e:Bool) (a n:Nat) (h:yQ T a n) :
 ∃P R,(piecesF T T.size a).map (·.2)=P++R∧(yX r T e a n).1=a+szs P∧(yX r T e a n).2.1=n+P.length∧Fits r P (yX r T e a n).2.2.1∧0≤(yX r T e a n).2.2.1 ∧
   ((yX r T e a n).2.2.2=2→P≠[]∧yH r.wh (n+P.length-1)=1) ∧
   ((yX r T e a n).2.2.2=3→P≠[]∧∀x f,R=x::f→r.w<wOf r (P++[x])) ∧
   (r.w<(yX r T e a n).2.2.1→P.length=1)∧(wOf r (P++R)≤r.w→R=[]):=by
 have k:yBc e≠2∧yBc e≠3:=by unfold yBc;split <;> constructor <;> decide
 obtain⟨b,u,Q,R,M,K,v,l,L,z⟩:=fill_law r (by omega) a n _ [] [] _ (FlP.start r (by omega) a n);rw [zp] at l z;have N:yAg r ((yF (T.extract a T.size)).map (·.2)) (fl0 a n)=(b,u):=K;rw [yFp T a h.1] at v;have m:=l.fits;obtain⟨g,i,o,A,B,C,p,O,D,E,U,V,W⟩:=l;dsimp only at g i o A B C p O D E U m;have h0:=v;unfold yX;rw [N];cases u with
 | false =>
   have X:=L rfl;subst X;exact⟨Q,[],h0,g,i,m,p,fun h=>qF h k.1,fun h=>qF h k.2,fun h=>by dsimp only at h;omega,fun _=>rfl⟩
 | true =>
   obtain⟨x,f,rfl,F,Y⟩:=z rfl;have q:∀P s,P++s=Q++x::f→¬ wOf r (P++s)≤r.w:=by
    intro P s j;rw [j,show Q++x::f=(Q++[x])++f by simp];have:=wOf_pre r (Q++[x]) f;omega
   dsimp only;by_cases G:a<b.ma
   ·rw [Zg G];obtain⟨S,H⟩:=V;have I:M≠[]:=(by rintro rfl;rw [szs] at o;omega);refine⟨M,S++x::f,by rw [h0,←H,zZ],o,A,D,E,fun _=>⟨I,W.resolve_left I⟩,(fun h=>by dsimp only at h;omega),(fun h=>by dsimp only at h;omega),fun d=>qF d (q _ _ (by rw [←H,zZ]))⟩
   ·rw [Zf G];by_cases J:a<b.a
    ·rw [Zg J];have t:Q≠[]:=(by rintro rfl;rw [szs] at g;omega);exact⟨Q,x::f,h0,g,i,m,p,(fun h=>by dsimp only at h;omega),fun _=>⟨t,fun y S j=>by cases j;exact F⟩,(fun h=>by dsimp only at h;omega),fun d=>qF d (q _ _ rfl)⟩
    ·rw [Zf J];have t:Q=[]:=szs_zero h0 (by omega);subst t;rw [zp] at F h0;rw [szs] at g;have Z:b.a=a:=(by omega);have a0:a<T.size:=by
      by_cases e:a<T.size
      ·exact e
      ·have:a=T.size:=(by have:=h.1;omega);rw [this,yd] at h0;cases h0
     have a1:x=T.extract a (a+nextI (T.extract a T.size)):=by
      rw [yL T a a0,Zd] at h0;exact (List.cons.inj h0).1.symm
     have hn:=yY (T.extract a T.size) (by rw [yJ T a (by omega)];omega);rw [yJ T a (by omega)] at hn;have a2:x.size=nextI (T.extract a T.size):=(by rw [a1];simp [ZV];omega);have a3:b.hangs=false:=by
      cases hg:b.hangs with
      | false=>rfl
      | true=>have:=C hg;rw [wOf_nil] at this;omega
     have a4:b.wide=0:=B a3;have a5:b.c=wOf r [x]:=by
      have:=wOf_snoc r [] x;rw [wOf_nil,zp] at this;rw [this,Y,a4];omega
     have a6:=(yGj x b.wide r.tab r.wideA r.raw).1;refine⟨[x],f,h0,?_,?_,.inl a5,?_,fun d=>?_,fun d=>⟨by simp,fun y S j=>?_⟩,fun _=>rfl,fun d=>qF d (q _ _ rfl)⟩
     ·show b.a+nextI (T.extract b.a T.size)=a+szs [x];rw [Z,szs,szs,a2];omega
     ·show b.n+1=_;rw [i];simp
     ·show 0≤b.c;omega
     ·exfalso;dsimp only at d;split at d
      ·exact k.1 d
      ·omega
     ·have:=wOf_pre r [x] [y];omega
theorem yP4 {t:ByteArray} {a b c d:Nat} (e:a=c) (f:b=d):t.extract a b=t.extract c d:=by rw [e,f]
theorem yGy (T:ByteArray) (a n:Nat) (h:yQ T a n) (P R:List ByteArray) (c:(piecesF T T.size a).map (·.2)=P++R) :
 a+szs P≤T.size∧yQ T (a+szs P) (n+P.length)∧(yF (T.extract a (a+szs P))).map (·.2)=P∧(piecesF T T.size (a+szs P)).map (·.2)=R:=by
 induction P generalizing a n with
 | nil =>
   have b:(T.extract a (a+szs [])).size=0:=(by rw [szs];simp [ZV]);rw [szs,Zl];refine⟨h.1,h,?_,by rw [c];rfl⟩;unfold yF;rw [szs,Zl] at b;rw [b];rfl
 | cons x t ih =>
   have l:a<T.size:=by
    by_cases e:a<T.size
    ·exact e
    ·have:a=T.size:=(by have:=h.1;omega);rw [this,yd] at c;cases c
   have C:=c;rw [yL T a l,Zd,zo] at c;obtain⟨j,r⟩:=List.cons.inj c;have f:=yY (T.extract a T.size) (by rw [yJ T a (by omega)];omega);rw [yJ T a (by omega)] at f;have g:x.size=nextI (T.extract a T.size):=(by rw [←j];simp [ZV];omega);obtain⟨o,s,k,v⟩:=ih (a+nextI (T.extract a T.size)) (n+1) (h.next l) r;have w:a+szs (x::t)=a+nextI (T.extract a T.size)+szs t:=(by rw [szs,g];omega);rw [w];refine⟨o,by rw [zb,show n+(t.length+1)=n+1+t.length by omega];exact s,?_,v⟩;obtain⟨e,i⟩:=nm (a+nextI (T.extract a T.size)+szs t);rw [i] at o k ⊢;obtain⟨u,d⟩:=nm (T.extract a T.size);have D:u.size=T.size-a:=(by rw [←d];exact yJ T a (by omega));have hcut:T.extract a e=u.extract 0 (e-a):=by
    rw [←d,yA1];exact yP4 (by omega) (by omega)
   rw [d] at f g j i k;have y:=next_cut u (e-a) (by omega) (by omega);rw [hcut];have b:(u.extract 0 (e-a)).size=e-a:=(by simp [ZV];omega);unfold yF;rw [b];have p:=yL (u.extract 0 (e-a)) 0 (by rw [b];omega);rw [b,show (u.extract 0 (e-a)).extract 0 (e-a)=u.extract 0 (e-a) by rw [yA1];exact yP4 (by omega) (by omega),y,Za] at p;have z:u.extract 0 (nextI u)=x:=by
    rw [←j];generalize nextI u=m at f g i;rw [←d,yA1];exact yP4 (by omega) (by omega)
   have A:(u.extract 0 (e-a)).extract (nextI u) (e-a)=T.extract (a+nextI u) e:=by
    generalize nextI u=m at f g i;rw [←d,yA1,yA1];exact yP4 (by omega) (by omega)
   have B:(u.extract 0 (e-a)).extract 0 (nextI u)=x:=by
    rw [←z,yA1];exact yP4 (by omega) (by omega)
   rw [p,Zd,B];refine Zb (x::·) ?_;have q:=yNc (u.extract 0 (e-a)) (nextI u) (by rw [b];omega);rw [b,A] at q;rw [q,zx,←k];rfl
def yBd (x:Nat):List (Nat × ByteArray)→Nat→Nat × Nat
 | [],n=>(n,n)
 | p::t,n=>if x<p.1+p.2.size then (p.1,p.1+p.2.size) else yBd x t n
def yEx (s:ByteArray) (x:Int):Nat × Nat:=yBd (min x.toNat s.size) (yF s) s.size
def upB (s:ByteArray) (x:Nat):Nat:=if (yEx s x).1=x then x else (yEx s x).2
theorem yBj (s:ByteArray):∀(L:List (Nat × ByteArray)) (a b:Nat),a≤s.size→b≤s.size→piecesF s s.size a=L++piecesF s s.size b →
 a+szs (L.map (·.2))=b∧(∀p∈L,a≤p.1∧p.1<b∧p.1+p.2.size≤b∧0<p.2.size)∧(L=[]→a=b)
 | [],a,b,ha,hb,h=>by
   have f:a=b:=by
    by_cases i:a<s.size
    ·rw [zp,yL s a i] at h;by_cases d:b<s.size
     ·rw [yL s b d] at h;have:=(List.cons.inj h).1;injection this
     ·rw [show b=s.size by omega,yd] at h;cases h
    ·rw [zp,show a=s.size by omega,yd] at h;by_cases d:b<s.size
     ·rw [yL s b d] at h;cases h
     ·omega
   exact⟨by simp [szs,f],(fun p c=>by cases c),fun _=>f⟩
 | q::t,a,b,ha,hb,h=>by
   have j:a<s.size:=by
    by_cases e:a<s.size
    ·exact e
    ·rw [show a=s.size by omega,yd] at h;cases h
   rw [yL s a j,zo] at h;have n:=yJ s a ha;have o:=yY (s.extract a s.size) (by omega);obtain⟨g,k⟩:=List.cons.inj h;obtain⟨r,l,_⟩:=yBj s t _ b (by omega) hb k;have m:q.2.size=nextI (s.extract a s.size):=(by rw [←g];simp [ZV];omega);have u:q.1=a:=(by rw [←g]);refine⟨by rw [Zd,szs,m];omega,fun p c=>?_,fun e=>by cases e⟩;rcases zX.1 c with rfl | c
   ·omega
   ·have:=l p c;omega
theorem yLk {s:ByteArray} {a b k m:Nat} (e:yQ s a k) (f:yQ s b m) (h:k≤m):∃L,piecesF s s.size a=L++piecesF s s.size b∧L.length=m-k:=by
 obtain⟨n,pre,g,o⟩:=e;obtain⟨p,c,i,j⟩:=f;have l:pre++piecesF s s.size a=c++piecesF s s.size b:=g.symm.trans i;refine⟨c.drop k,?_,by rw [zy,j]⟩;have d:=Zb (List.drop k) l;rw [List.drop_append_of_le_length (by omega),ql (by omega:pre.length≤k),zp,List.drop_append_of_le_length (by omega)] at d;exact d
theorem bord_le {s:ByteArray} {a b k m:Nat} (c:yQ s a k) (d:yQ s b m) (h:k≤m):a≤b:=by
 obtain⟨L,e,_⟩:=yLk c d h;have:=(yBj s L a b c.1 d.1 e).1;omega
theorem bord_lt {s:ByteArray} {a b k m:Nat} (c:yQ s a k) (d:yQ s b m) (h:a<b):k<m:=by
 by_cases e:k<m
 ·exact e
 ·have:=bord_le d c (by omega);omega
theorem bord_eq {s:ByteArray} {a k m:Nat} (b:yQ s a k) (c:yQ s a m):k=m:=by
 have d:∀{k m:Nat},yQ s a k→yQ s a m→k≤m→k=m:=by
  intro k m b c h;obtain⟨L,f,e⟩:=yLk b c h;have g:L=[]:=by
   cases L with
   | nil=>rfl
   | cons q t =>
     have:=(yBj s _ a a b.1 c.1 f).2.1 q (by simp);omega
  rw [g] at e;simp at e;omega
 rcases Nat.le_total k m with h | h
 ·exact d b c h
 ·exact (d c b h).symm
theorem yLr {s:ByteArray} {p c k m:Nat} (b:yQ s p k) (a:yQ s c m) (h:p<c):p+nextI (s.extract p s.size)≤c:=by
 have d:p<s.size:=by have:=a.1;omega
 have:=bord_lt b a h;exact bord_le (b.next d) a (by omega)
theorem yIn (s:ByteArray):yQ s s.size (yF s).length:=⟨zT _,yF s,by rw [yd,zq],rfl⟩
theorem yPr (s:ByteArray) (x:Nat) (b:x≤s.size):∀(f a k:Nat),s.size≤a+f→yQ s a k→a≤x →
 ∃d g,yQ s (yBd x (piecesF s s.size a) s.size).1 d∧yQ s (yBd x (piecesF s s.size a) s.size).2 g∧(yBd x (piecesF s s.size a) s.size).1≤x∧x≤(yBd x (piecesF s s.size a) s.size).2 ∧
   (x<s.size→x<(yBd x (piecesF s s.size a) s.size).2∧(yBd x (piecesF s s.size a) s.size).2=(yBd x (piecesF s s.size a) s.size).1+nextI (s.extract (yBd x (piecesF s s.size a) s.size).1 s.size)) ∧
   (x=s.size→(yBd x (piecesF s s.size a) s.size).1=s.size∧(yBd x (piecesF s s.size a) s.size).2=s.size)
 | 0,a,k,hf,hb,ha=>by
   have:a=s.size:=(by have:=hb.1;omega);subst this;rw [yd,yBd];exact⟨_,_,yIn s,yIn s,ha,b,fun h=>by omega,fun _=>⟨rfl,rfl⟩⟩
 | f+1,a,k,hf,hb,ha=>by
   by_cases c:a<s.size
   ·have j:=yJ s a (by omega);have l:=yY (s.extract a s.size) (by omega);have i:(s.extract a (a+nextI (s.extract a s.size))).size=nextI (s.extract a s.size):=(by simp [ZV];omega);rw [yL s a c,yBd,i];by_cases h:x<a+nextI (s.extract a s.size)
    ·rw [Zg h];exact⟨_,_,hb,hb.next c,ha,by omega,fun _=>⟨h,rfl⟩,fun e=>by omega⟩
    ·rw [Zf h];exact yPr s x b f _ _ (by omega) (hb.next c) (by omega)
   ·have:a=s.size:=(by have:=hb.1;omega);subst this;rw [yd,yBd];exact⟨_,_,yIn s,yIn s,ha,b,fun h=>by omega,fun _=>⟨rfl,rfl⟩⟩
theorem yMh (s:ByteArray) (x:Int) :
 ∃a b,yQ s (yEx s x).1 a∧yQ s (yEx s x).2 b∧(yEx s x).1≤min x.toNat s.size∧min x.toNat s.size≤(yEx s x).2 ∧
   (min x.toNat s.size<s.size→min x.toNat s.size<(yEx s x).2∧(yEx s x).2=(yEx s x).1+nextI (s.extract (yEx s x).1 s.size))∧(min x.toNat s.size=s.size→(yEx s x).1=s.size∧(yEx s x).2=s.size) :=
 yPr s (min x.toNat s.size) (Nat.min_le_right _ _) s.size 0 0 (by omega) (yQ.zero s) (zd _)
theorem yFh (s:ByteArray) (x:Nat) (p:x≤s.size):∃k,yQ s (upB s x) k∧x≤upB s x∧∀c m,yQ s c m→x≤c→upB s x≤c:=by
 obtain⟨g,i,a,j,l,b,d,f⟩:=yMh s x;have n:min (x:Int).toNat s.size=x:=by omega
 rw [n] at l b d f;unfold upB;by_cases e:(yEx s (x:Int)).1=x
 ·rw [Zg e];exact⟨g,e▸a,zT _,fun c m _ h=>h⟩
 ·rw [Zf e];refine⟨i,j,b,fun c m o q=>?_⟩;by_cases h:x<s.size
  ·rw [(d h).2];exact yLr a o (by omega)
  ·have:=f (by omega);omega
theorem upB_mono (s:ByteArray) (x y:Nat) (h:x≤y) (a:y≤s.size):upB s x≤upB s y:=by
 obtain⟨_,_,_,b⟩:=yFh s x (by omega);obtain⟨k,c,d,_⟩:=yFh s y a;exact b _ _ c (by omega)
def inPs (s:ByteArray) (fr tt:Nat):List (Nat × ByteArray):=(yF s).filter (fun p=>decide (fr≤p.1)&&decide (p.1<tt))
theorem yD6 {s:ByteArray} {fr a k m:Nat} (c:yQ s fr k) (d:yQ s a m) (h:fr≤a) :
 piecesF s s.size fr=inPs s fr a++piecesF s s.size a∧(inPs s fr a).map (·.2)=(yF (s.extract fr a)).map (·.2)∧fr+szs ((inPs s fr a).map (·.2))=a ∧
  (∀p∈inPs s fr a,fr≤p.1∧p.1+p.2.size≤a∧0<p.2.size)∧∃pre,yF s=pre++inPs s fr a++piecesF s s.size a∧pre.length=k∧∀p∈pre,p.1<fr:=by
 have r:k≤m:=by
  by_cases e:fr=a
  ·subst e;exact Nat.le_of_eq (bord_eq c d)
  ·exact Zq (bord_lt c d (by omega))
 obtain⟨L,f,_⟩:=yLk c d r;obtain⟨j,i,y⟩:=yBj s L fr a c.1 d.1 f;obtain⟨l,pre,g,n⟩:=c;obtain⟨z,o,_⟩:=yBj s pre 0 fr (zd _) l g;have t:inPs s fr a=L:=by
  unfold inPs;rw [g,f,List.filter_append,List.filter_append];have u:pre.filter (fun p=>decide (fr≤p.1)&&decide (p.1<a))=[]:=by
   rw [List.filter_eq_nil_iff];intro p b;have:=(o p b).2.1;simp;omega
  have v:L.filter (fun p=>decide (fr≤p.1)&&decide (p.1<a))=L:=by
   rw [List.filter_eq_self];intro p b;have:=i p b;simp;omega
  have w:(piecesF s s.size a).filter (fun p=>decide (fr≤p.1)&&decide (p.1<a))=[]:=by
   rw [List.filter_eq_nil_iff];intro p b;have:=(yBj s (piecesF s s.size a) a s.size d.1 (zT _) (by rw [yd,zq])).2.1 p b;simp;omega
  rw [u,v,w];simp
 have x:(piecesF s s.size fr).map (·.2)=L.map (·.2)++(piecesF s s.size a).map (·.2):=by rw [f,zW]
 obtain⟨A,B,q,C⟩:=yGy s fr k ⟨l,pre,g,n⟩ _ _ x;rw [j] at q;rw [t];exact⟨f,q.symm,j,fun p b=>⟨(i p b).1,(i p b).2.2⟩,pre,by rw [g,f,zZ],n,fun p b=>(o p b).2.1⟩
end
section
open Go.RowKit
theorem wk_trans {w w1 c:World} {row:Option Nat} (a:w.grownBy w1 row) (b:w1.grownBy c row):w.grownBy c row :=
 ⟨b.os.trans a.os,b.tape.trans a.tape,b.output.trans a.output,zY a.size b.size,fun k d e=>(b.block k (zl d a.size) e).trans (a.block k d e)⟩
theorem yHg (w:World) (row:Option Nat):w.grownBy w row:=⟨rfl,rfl,rfl,zT _,fun _ _ _=>rfl⟩
def yFi (ys:List Int) (n base:Nat) (ao:Option Addr) (cap:Nat) (w:World) (e:Ending) (w':World):Prop :=
 e=.returned (.tuple #[])∧ys.length=n∧yG .i8 22 w' base ao cap ys∧w.grownBy w' (Value.slice ao n cap).ownBlock
theorem letters_any (e:Option Addr) (cap base n:Nat) (B:Int) (xs:List Int) (w:World) (o:xs.length=n) (p:yG .i8 22 w base e cap xs) (F:n≤2097152) :
 Calls Tryz.prog 216 #[.slice e n cap,.int .i8 B] w (yFi (yB1 n 0 xs) n base e cap w):=by
 have C:=lh o;clear o;go_enter Tryz.func216,Tryz.ntmps216;go_wp2;go_loopw [8] (fun c r=>∃(i m:Nat) (a:List Int),i+m=n∧c=.int .i64 i∧a.length=n∧yG .i8 22 r base e cap a∧w.grownBy r (Value.slice e n cap).ownBlock∧yB1 m i a=yB1 n 0 xs) (fun c _=>n-(intOf c).toNat)
 case atStart=>exact⟨0,n,xs,by omega,rfl,C.out,p,yHg _ _,rfl⟩
 case round =>
  obtain⟨i,m,a,s,rfl,t,b,f,u⟩:=hrel;have g:=lh s;have h:=lh t;have k:=lh u;clear s t u p;by_cases H:i<n
  ·obtain⟨m,rfl⟩:∃q,m=q+1:=⟨m-1,by have:=g.out;omega⟩;obtain⟨G,rfl,I,J,D,K,_,_⟩:=b.at i (by have:=h.out;omega);have v:∀y,yH a i=y→yB1 (m+1) i a=if y=2 then yB1 m (i+1) (a.set i 1) else yB1 m (i+1) a:=fun y j=>by rw [yB1,j]
   generalize j:yH a i=y at D;have x:=lh (v y j);clear v j;by_cases d:y=2
   ·have E:(y==2)=true:=(by simpa using d);have l:=lh (x.out.trans (Zg d));clear d;have z:=lh (And.intro (b.set i 1) (wk_trans f (qH b i (.int .i8 1)).2));clear b f;go_wp2
    all_goals
     go_roundw
     case rel=>exact⟨i+1,m,a.set i 1,by have:=g.out;omega,by go_num,by rw [ZQ];exact h.out,z.out.1,z.out.2,by rw [←k.out,l.out]⟩
     case measure=>simp [intOf];omega
   ·have E:(y==2)=false:=(by simpa using d);have l:=lh (x.out.trans (Zf d));clear d;go_wp2
    all_goals
     go_roundw
     case rel=>exact⟨i+1,m,a,by have:=g.out;omega,by go_num,h.out,b,f,by rw [←k.out,l.out]⟩
     case measure=>simp [intOf];omega
  ·have h0:m=0:=(by have:=g.out;omega);have A:Hid (a=yB1 n 0 xs):=(by subst h0;exact k);go_wp2
   go_end0
   exact⟨rfl,by rw [←A.out];exact h.out,by rw [←A.out];exact b,f⟩
theorem others_any (j:Option Addr) (cap base n:Nat) (B:Int) (xs:List Int) (w:World) (p:xs.length=n) (r:yG .i8 22 w base j cap xs) (E:n≤2097152) :
 Calls Tryz.prog 219 #[.slice j n cap,.int .i8 B] w (yFi (yC1 n 0 xs) n base j cap w):=by
 have C:=lh p;clear p;go_enter Tryz.func219,Tryz.ntmps219;go_wp2;go_loopw [8] (fun c s=>∃(i m:Nat) (b:List Int),i+m=n∧c=.int .i64 i∧b.length=n∧yG .i8 22 s base j cap b∧w.grownBy s (Value.slice j n cap).ownBlock∧yC1 m i b=yC1 n 0 xs) (fun c _=>n-(intOf c).toNat)
 case atStart=>exact⟨0,n,xs,by omega,rfl,C.out,r,yHg _ _,rfl⟩
 case round =>
  obtain⟨i,m,b,t,rfl,u,d,e,v⟩:=hrel;have g:=lh t;have h:=lh u;have k:=lh v;clear t u v r;by_cases F:i<n
  ·obtain⟨m,rfl⟩:∃q,m=q+1:=⟨m-1,by have:=g.out;omega⟩;obtain⟨G,rfl,H,I,D,J,_,_⟩:=d.at i (by have:=h.out;omega);have x:∀y,yH b i=y→yC1 (m+1) i b=if y=4∨y=5∨y=7 then yC1 m (i+1) (b.set i 13) else yC1 m (i+1) b:=fun y o=>by rw [yC1,o]
   generalize o:yH b i=y at D;have z:=lh (x y o);clear x o;by_cases a:y=4∨y=5∨y=7
   ·have l:=lh (z.out.trans (Zg a));rcases a with a | a | a
    ·subst a;have f:=lh (And.intro (d.set i 13) (wk_trans e (qH d i (.int .i8 13)).2));clear d e;go_wp2
     all_goals
      go_roundw
      case rel=>exact⟨i+1,m,b.set i 13,by have:=g.out;omega,by go_num,by rw [ZQ];exact h.out,f.out.1,f.out.2,by rw [←k.out,l.out]⟩
      case measure=>simp [intOf];omega
    ·subst a;have f:=lh (And.intro (d.set i 13) (wk_trans e (qH d i (.int .i8 13)).2));clear d e;go_wp2
     all_goals
      go_roundw
      case rel=>exact⟨i+1,m,b.set i 13,by have:=g.out;omega,by go_num,by rw [ZQ];exact h.out,f.out.1,f.out.2,by rw [←k.out,l.out]⟩
      case measure=>simp [intOf];omega
    ·subst a;have f:=lh (And.intro (d.set i 13) (wk_trans e (qH d i (.int .i8 13)).2));clear d e;go_wp2
     all_goals
      go_roundw
      case rel=>exact⟨i+1,m,b.set i 13,by have:=g.out;omega,by go_num,by rw [ZQ];exact h.out,f.out.1,f.out.2,by rw [←k.out,l.out]⟩
      case measure=>simp [intOf];omega
   ·have l:=lh (z.out.trans (Zf a));have K:(y==4)=false:=(by simp only [not_or] at a;simpa using a.1);have L:(y==5)=false:=(by simp only [not_or] at a;simpa using a.2.1);have M:(y==7)=false:=(by simp only [not_or] at a;simpa using a.2.2);clear a;go_wp2
    all_goals
     go_roundw
     case rel=>exact⟨i+1,m,b,by have:=g.out;omega,by go_num,h.out,d,e,by rw [←k.out,l.out]⟩
     case measure=>simp [intOf];omega
  ·have h0:m=0:=(by have:=g.out;omega);have A:Hid (b=yC1 n 0 xs):=(by subst h0;exact k);go_wp2
   go_end0
   exact⟨rfl,by rw [←A.out];exact h.out,by rw [←A.out];exact d,e⟩
theorem digits_any (p:Option Addr) (cap base n:Nat) (r:Int) (xs:List Int) (w:World) (x:xs.length=n) (z:yG .i8 22 w base p cap xs) (L:n≤2097152) :
 Calls Tryz.prog 220 #[.slice p n cap,.int .i8 r] w (yFi (yB8 n 0 r xs) n base p cap w):=by
 have I:=lh x;clear x;go_enter Tryz.func220,Tryz.ntmps220;go_wp2;go_loopw [1,8] (fun s c A=>∃(i m:Nat) (a:List Int) (d:Int),s=.int .i8 d∧i+m=n∧c=.int .i64 i∧a.length=n∧yG .i8 22 A base p cap a∧w.grownBy A (Value.slice p n cap).ownBlock∧yB8 m i d a=yB8 n 0 r xs) (fun _ c _=>n-(intOf c).toNat)
 case atStart=>exact⟨0,n,xs,r,rfl,by omega,rfl,I.out,z,yHg _ _,rfl⟩
 case round =>
  obtain⟨i,m,a,d,rfl,B,rfl,C,f,g,D⟩:=hrel;have h:=lh B;have j:=lh C;have l:=lh D;clear B C D z;by_cases M:i<n
  ·obtain⟨m,rfl⟩:∃q,m=q+1:=⟨m-1,by have:=h.out;omega⟩;obtain⟨G,rfl,N,O,J,P,_,_⟩:=f.at i (by have:=j.out;omega);have E:∀y,yH a i=y→yB8 (m+1) i d a=if y=0∨y=1 then yB8 m (i+1) y a else if y=3∧d=0 then yB8 m (i+1) d (a.set i 0) else yB8 m (i+1) d a:=fun y u=>by rw [yB8,u]
   generalize u:yH a i=y at J;have v:=lh (E y u);clear E u;by_cases b:y=0∨y=1
   ·have k:=lh (v.out.trans (Zg b));rcases b with b | b
    ·subst b;go_wp2
     all_goals
      go_roundw
      case rel=>exact⟨i+1,m,a,0,rfl,by have:=h.out;omega,by go_num,j.out,f,g,by rw [←l.out,k.out]⟩
      case measure=>simp [intOf];omega
    ·subst b;go_wp2
     all_goals
      go_roundw
      case rel=>exact⟨i+1,m,a,1,rfl,by have:=h.out;omega,by go_num,j.out,f,g,by rw [←l.out,k.out]⟩
      case measure=>simp [intOf];omega
   ·have Q:(y==0)=false:=(by simp only [not_or] at b;simpa using b.1);have R:(y==1)=false:=(by simp only [not_or] at b;simpa using b.2);by_cases o:y=3∧d=0
    ·have k:=lh ((v.out.trans (Zf b)).trans (Zg o));obtain⟨rfl,rfl⟩:=o;clear b;have F:=lh (And.intro (f.set i 0) (wk_trans g (qH f i (.int .i8 0)).2));clear f g;go_wp2
     all_goals
      go_roundw
      case rel=>exact⟨i+1,m,a.set i 0,0,rfl,by have:=h.out;omega,by go_num,by rw [ZQ];exact j.out,F.out.1,F.out.2,by rw [←l.out,k.out]⟩
      case measure=>simp [intOf];omega
    ·have k:=lh ((v.out.trans (Zf b)).trans (Zf o));by_cases t:y=3
     ·have K:(y==3)=true:=(by simpa using t);have S:(d==0)=false:=by simpa using fun e=>o ⟨t,e⟩
      clear b o t;go_wp2
      all_goals
       go_roundw
       case rel=>exact⟨i+1,m,a,d,rfl,by have:=h.out;omega,by go_num,j.out,f,g,by rw [←l.out,k.out]⟩
       case measure=>simp [intOf];omega
     ·have K:(y==3)=false:=(by simpa using t);clear b o t;go_wp2
      all_goals
       go_roundw
       case rel=>exact⟨i+1,m,a,d,rfl,by have:=h.out;omega,by go_num,j.out,f,g,by rw [←l.out,k.out]⟩
       case measure=>simp [intOf];omega
  ·have h0:m=0:=(by have:=h.out;omega);have H:Hid (a=yB8 n 0 r xs):=(by subst h0;exact l);go_wp2
   go_end0
   exact⟨rfl,by rw [←H.out];exact j.out,by rw [←H.out];exact f,g⟩
theorem arabic_any (p:Option Addr) (cap base n:Nat) (r:Int) (xs:List Int) (w:World) (x:xs.length=n) (z:yG .i8 22 w base p cap xs) (L:n≤2097152) :
 Calls Tryz.prog 215 #[.slice p n cap,.int .i8 r] w (yFi (yCa n 0 r xs) n base p cap w):=by
 have I:=lh x;clear x;go_enter Tryz.func215,Tryz.ntmps215;go_wp2;go_loopw [1,8] (fun s c A=>∃(i m:Nat) (b:List Int) (d:Int),s=.int .i8 d∧i+m=n∧c=.int .i64 i∧b.length=n∧yG .i8 22 A base p cap b∧w.grownBy A (Value.slice p n cap).ownBlock∧yCa m i d b=yCa n 0 r xs) (fun _ c _=>n-(intOf c).toNat)
 case atStart=>exact⟨0,n,xs,r,rfl,by omega,rfl,I.out,z,yHg _ _,rfl⟩
 case round =>
  obtain⟨i,m,b,d,rfl,B,rfl,C,f,g,D⟩:=hrel;have h:=lh B;have j:=lh C;have l:=lh D;clear B C D z;by_cases M:i<n
  ·obtain⟨m,rfl⟩:∃q,m=q+1:=⟨m-1,by have:=h.out;omega⟩;obtain⟨G,rfl,N,O,J,P,_,_⟩:=f.at i (by have:=j.out;omega);have E:∀y,yH b i=y→yCa (m+1) i d b=if y=0∨y=1∨y=2 then yCa m (i+1) y b else if y=3∧d=2 then yCa m (i+1) d (b.set i 6) else yCa m (i+1) d b:=fun y u=>by rw [yCa,u]
   generalize u:yH b i=y at J;have v:=lh (E y u);clear E u;by_cases a:y=0∨y=1∨y=2
   ·have k:=lh (v.out.trans (Zg a));rcases a with a | a | a
    ·subst a;go_wp2
     all_goals
      go_roundw
      case rel=>exact⟨i+1,m,b,0,rfl,by have:=h.out;omega,by go_num,j.out,f,g,by rw [←l.out,k.out]⟩
      case measure=>simp [intOf];omega
    ·subst a;go_wp2
     all_goals
      go_roundw
      case rel=>exact⟨i+1,m,b,1,rfl,by have:=h.out;omega,by go_num,j.out,f,g,by rw [←l.out,k.out]⟩
      case measure=>simp [intOf];omega
    ·subst a;go_wp2
     all_goals
      go_roundw
      case rel=>exact⟨i+1,m,b,2,rfl,by have:=h.out;omega,by go_num,j.out,f,g,by rw [←l.out,k.out]⟩
      case measure=>simp [intOf];omega
   ·have Q:(y==0)=false:=(by simp only [not_or] at a;simpa using a.1);have R:(y==1)=false:=(by simp only [not_or] at a;simpa using a.2.1);have S:(y==2)=false:=(by simp only [not_or] at a;simpa using a.2.2);by_cases o:y=3∧d=2
    ·have k:=lh ((v.out.trans (Zf a)).trans (Zg o));obtain⟨rfl,rfl⟩:=o;clear a;have F:=lh (And.intro (f.set i 6) (wk_trans g (qH f i (.int .i8 6)).2));clear f g;go_wp2
     all_goals
      go_roundw
      case rel=>exact⟨i+1,m,b.set i 6,2,rfl,by have:=h.out;omega,by go_num,by rw [ZQ];exact j.out,F.out.1,F.out.2,by rw [←l.out,k.out]⟩
      case measure=>simp [intOf];omega
    ·have k:=lh ((v.out.trans (Zf a)).trans (Zf o));by_cases t:y=3
     ·have K:(y==3)=true:=(by simpa using t);have T:(d==2)=false:=by simpa using fun e=>o ⟨t,e⟩
      clear a o t;go_wp2
      all_goals
       go_roundw
       case rel=>exact⟨i+1,m,b,d,rfl,by have:=h.out;omega,by go_num,j.out,f,g,by rw [←l.out,k.out]⟩
       case measure=>simp [intOf];omega
     ·have K:(y==3)=false:=(by simpa using t);clear a o t;go_wp2
      all_goals
       go_roundw
       case rel=>exact⟨i+1,m,b,d,rfl,by have:=h.out;omega,by go_num,j.out,f,g,by rw [←l.out,k.out]⟩
       case measure=>simp [intOf];omega
  ·have h0:m=0:=(by have:=h.out;omega);have H:Hid (b=yCa n 0 r xs):=(by subst h0;exact l);go_wp2
   go_end0
   exact⟨rfl,by rw [←H.out];exact j.out,by rw [←H.out];exact f,g⟩
theorem marks_any (p:Option Addr) (cap base n:Nat) (r:Int) (xs:List Int) (w:World) (x:xs.length=n) (z:yG .i8 22 w base p cap xs) (O:n≤2097152) :
 Calls Tryz.prog 214 #[.slice p n cap,.int .i8 r] w (yFi (yEm n 0 r xs) n base p cap w):=by
 have I:=lh x;clear x;go_enter Tryz.func214,Tryz.ntmps214;go_wp2;go_loopw [1,8] (fun s c A=>∃(i m:Nat) (d:List Int) (a:Int),s=.int .i8 a∧i+m=n∧c=.int .i64 i∧d.length=n∧yG .i8 22 A base p cap d∧w.grownBy A (Value.slice p n cap).ownBlock∧yEm m i a d=yEm n 0 r xs) (fun _ c _=>n-(intOf c).toNat)
 case atStart=>exact⟨0,n,xs,r,rfl,by omega,rfl,I.out,z,yHg _ _,rfl⟩
 case round =>
  obtain⟨i,m,d,a,rfl,B,rfl,C,b,e,D⟩:=hrel;have k:=lh B;have l:=lh C;have o:=lh D;clear B C D z;by_cases P:i<n
  ·obtain⟨m,rfl⟩:∃q,m=q+1:=⟨m-1,by have:=k.out;omega⟩;obtain⟨G,rfl,Q,R,J,S,_,_⟩:=b.at i (by have:=l.out;omega);have E:∀y,yH d i=y→yEm (m+1) i a d=if y=8 then yEm m (i+1) (if 19≤a∧a≤22 then 13 else a) (d.set i a) else yEm m (i+1) (if 19≤y∧y≤22 then 13 else y) d:=fun y v=>by rw [yEm,v]
   generalize v:yH d i=y at J;have F:=lh (E y v);clear E v;by_cases t:y=8
   ·have u:=lh (F.out.trans (Zg t));subst t;by_cases f:19≤a∧a≤22
    ·have j:=lh (u.out.trans (by rw [Zg f]));rcases (show a=19∨a=20∨a=21∨a=22 by omega) with h | h | h | h
     ·subst h;clear f;have g:=lh (And.intro (b.set i 19) (wk_trans e (qH b i (.int .i8 19)).2));clear b e;go_wp2
      all_goals
       go_roundw
       case rel=>exact⟨i+1,m,d.set i 19,13,rfl,by have:=k.out;omega,by go_num,by rw [ZQ];exact l.out,g.out.1,g.out.2,by rw [←o.out,j.out]⟩
       case measure=>simp [intOf];omega
     ·subst h;clear f;have g:=lh (And.intro (b.set i 20) (wk_trans e (qH b i (.int .i8 20)).2));clear b e;go_wp2
      all_goals
       go_roundw
       case rel=>exact⟨i+1,m,d.set i 20,13,rfl,by have:=k.out;omega,by go_num,by rw [ZQ];exact l.out,g.out.1,g.out.2,by rw [←o.out,j.out]⟩
       case measure=>simp [intOf];omega
     ·subst h;clear f;have g:=lh (And.intro (b.set i 21) (wk_trans e (qH b i (.int .i8 21)).2));clear b e;go_wp2
      all_goals
       go_roundw
       case rel=>exact⟨i+1,m,d.set i 21,13,rfl,by have:=k.out;omega,by go_num,by rw [ZQ];exact l.out,g.out.1,g.out.2,by rw [←o.out,j.out]⟩
       case measure=>simp [intOf];omega
     ·subst h;clear f;have g:=lh (And.intro (b.set i 22) (wk_trans e (qH b i (.int .i8 22)).2));clear b e;go_wp2
      all_goals
       go_roundw
       case rel=>exact⟨i+1,m,d.set i 22,13,rfl,by have:=k.out;omega,by go_num,by rw [ZQ];exact l.out,g.out.1,g.out.2,by rw [←o.out,j.out]⟩
       case measure=>simp [intOf];omega
    ·have j:=lh (u.out.trans (by rw [Zf f]));have K:(a==19)=false:=(by simp only [zN];omega);have L:(a==20)=false:=(by simp only [zN];omega);have M:(a==21)=false:=(by simp only [zN];omega);have N:(a==22)=false:=(by simp only [zN];omega);clear f;have g:=lh (And.intro (b.set i a) (wk_trans e (qH b i (.int .i8 a)).2));clear b e;go_wp2
     all_goals
      go_roundw
      case rel=>exact⟨i+1,m,d.set i a,a,rfl,by have:=k.out;omega,by go_num,by rw [ZQ];exact l.out,g.out.1,g.out.2,by rw [←o.out,j.out]⟩
      case measure=>simp [intOf];omega
   ·have T:(y==8)=false:=(by simpa using t);have u:=lh (F.out.trans (Zf t));clear t;by_cases f:19≤y∧y≤22
    ·have j:=lh (u.out.trans (by rw [Zg f]));rcases (show y=19∨y=20∨y=21∨y=22 by omega) with h | h | h | h
     ·subst h;clear f;go_wp2
      all_goals
       go_roundw
       case rel=>exact⟨i+1,m,d,13,rfl,by have:=k.out;omega,by go_num,l.out,b,e,by rw [←o.out,j.out]⟩
       case measure=>simp [intOf];omega
     ·subst h;clear f;go_wp2
      all_goals
       go_roundw
       case rel=>exact⟨i+1,m,d,13,rfl,by have:=k.out;omega,by go_num,l.out,b,e,by rw [←o.out,j.out]⟩
       case measure=>simp [intOf];omega
     ·subst h;clear f;go_wp2
      all_goals
       go_roundw
       case rel=>exact⟨i+1,m,d,13,rfl,by have:=k.out;omega,by go_num,l.out,b,e,by rw [←o.out,j.out]⟩
       case measure=>simp [intOf];omega
     ·subst h;clear f;go_wp2
      all_goals
       go_roundw
       case rel=>exact⟨i+1,m,d,13,rfl,by have:=k.out;omega,by go_num,l.out,b,e,by rw [←o.out,j.out]⟩
       case measure=>simp [intOf];omega
    ·have j:=lh (u.out.trans (by rw [Zf f]));have K:(y==19)=false:=(by simp only [zN];omega);have L:(y==20)=false:=(by simp only [zN];omega);have M:(y==21)=false:=(by simp only [zN];omega);have N:(y==22)=false:=(by simp only [zN];omega);clear f;go_wp2
     all_goals
      go_roundw
      case rel=>exact⟨i+1,m,d,y,rfl,by have:=k.out;omega,by go_num,l.out,b,e,by rw [←o.out,j.out]⟩
      case measure=>simp [intOf];omega
  ·have h0:m=0:=(by have:=k.out;omega);have H:Hid (d=yEm n 0 r xs):=(by subst h0;exact o);go_wp2
   go_end0
   exact⟨rfl,by rw [←H.out];exact l.out,by rw [←H.out];exact b,e⟩
theorem yOu (o:Option Addr) (cap base n:Nat) (I:Int) (xs:List Int) (w:World) (x:xs.length=n) (z:yG .i8 22 w base o cap xs) (S:n≤2097152) :
 Calls Tryz.prog 217 #[.slice o n cap,.int .i8 I] w (yFi (yOa (n-2) 1 xs) n base o cap w):=by
 have J:=lh x;clear x;go_enter Tryz.func217,Tryz.ntmps217;go_wp2;go_loopw [4] (fun c A=>∃(i:Nat) (d:List Int),i≤n+1∧c=.int .i64 ((i+1:Nat):Int)∧d.length=n∧yG .i8 22 A base o cap d∧w.grownBy A (Value.slice o n cap).ownBlock∧yOa (n-2-i) (i+1) d=yOa (n-2) 1 xs) (fun c _=>n+2-(intOf c).toNat)
 case atStart=>exact⟨0,xs,by omega,rfl,J.out,z,yHg _ _,rfl⟩
 case round =>
  obtain⟨i,d,T,rfl,B,f,j,C⟩:=hrel;have g:=lh B;have k:=lh C;clear B C z;by_cases U:i+2<n
  ·obtain⟨G,rfl,V,W,K,X,_,_⟩:=f.at (i+1) (by have:=g.out;omega);obtain⟨L,s,_,_,M,_⟩:=f.at i (by have:=g.out;omega);cases s;obtain⟨L,s,_,_,N,_⟩:=f.at (i+2) (by have:=g.out;omega);cases s;have D:∀a y b,yH d i=a→yH d (i+1)=y→yH d (i+2)=b→yOa (n-2-i) (i+1) d=if a=b∧(a=3∨a=6)∧(y=7∨(y=4∧a=3)) then yOa (n-2-(i+1)) (i+1+1) (d.set (i+1) a) else yOa (n-2-(i+1)) (i+1+1) d:=fun a y b p q r=>by
    rw [show n-2-i=(n-2-(i+1))+1 by omega,yOa,Ze,show i+1+1=i+2 by omega,p,q,r]
   generalize p:yH d i=a at M;generalize q:yH d (i+1)=y at K;generalize r:yH d (i+2)=b at N;have E:=lh (D a y b p q r);clear D p q r;by_cases h:a=b∧(a=3∨a=6)∧(y=7∨(y=4∧a=3))
   ·have l:=lh (E.out.trans (Zg h));obtain⟨rfl,O,P⟩:=h;have F:=lh (And.intro (f.set (i+1) a) (wk_trans j (qH f (i+1) (.int .i8 a)).2));clear f j;rcases O with rfl | rfl <;> rcases P with rfl | ⟨rfl,m⟩
    all_goals
     first
      | (exfalso;revert m;decide)
      | (go_wp2
         go_roundw
         case rel=>exact⟨i+1,_,by omega,by go_num,by rw [ZQ];exact g.out,F.out.1,F.out.2,by rw [←k.out,l.out]⟩
         case measure=>simp [intOf];omega)
   ·have l:=lh (E.out.trans (Zf h));by_cases t:a=b
    ·subst t;by_cases m:a=3
     ·subst m;have Q:(y==7)=false:=by simpa using fun e=>h ⟨rfl,.inl rfl,.inl e⟩
      have R:(y==4)=false:=by simpa using fun e=>h ⟨rfl,.inl rfl,.inr ⟨e,rfl⟩⟩
      clear h;go_wp2;go_roundw
      case rel=>exact⟨i+1,d,by omega,by go_num,g.out,f,j,by rw [←k.out,l.out]⟩
      case measure=>simp [intOf];omega
     ·by_cases u:a=6
      ·subst u;have Q:(y==7)=false:=by simpa using fun e=>h ⟨rfl,.inr rfl,.inl e⟩
       clear h m;by_cases v:y=4
       ·subst v;go_wp2;go_roundw
        case rel=>exact⟨i+1,d,by omega,by go_num,g.out,f,j,by rw [←k.out,l.out]⟩
        case measure=>simp [intOf];omega
       ·have R:(y==4)=false:=(by simpa using v);clear v;go_wp2;go_roundw
        case rel=>exact⟨i+1,d,by omega,by go_num,g.out,f,j,by rw [←k.out,l.out]⟩
        case measure=>simp [intOf];omega
      ·have Y:(a != 3)=true:=(by simpa using m);have Z:(a != 6)=true:=(by simpa using u);clear h m u;go_wp2;go_roundw
       case rel=>exact⟨i+1,d,by omega,by go_num,g.out,f,j,by rw [←k.out,l.out]⟩
       case measure=>simp [intOf];omega
    ·have a0:(a != b)=true:=(by simpa using t);clear h t;go_wp2;go_roundw
     case rel=>exact⟨i+1,d,by omega,by go_num,g.out,f,j,by rw [←k.out,l.out]⟩
     case measure=>simp [intOf];omega
  ·have H:Hid (d=yOa (n-2) 1 xs):=by
    have:=k.out;rw [show n-2-i=0 by omega] at this;exact this
   go_wp2
   go_end0
   exact⟨rfl,by rw [←H.out];exact g.out,by rw [←H.out];exact f,j⟩
end
section
open Go.RowKit
theorem yO3 {P:Program} {a:Act} {w:World} {Q:Exit→Act→World→Prop} {x rest:Code} (l:Nat) (J:Act→World→Prop) (μ:Act→World→Nat) (d:findLabel x l=none)
 (first:x.wp P (fun e a w=>e=.normal∧J a w) a w)
 (c:∀a w,J a w→rest.wp P (Exit.jump l (fun b w'=>J b w'∧μ b w'<μ a w) Q) a w):(Code.scope (.seq x (.seq (.label l) rest))).wp P Q a w:=by
 have f:∀a w,J a w→(Code.seq .skip rest).wp P (Exit.jump l (fun b w'=>J b w'∧μ b w'<μ a w) Q) a w:=fun a w h=>by
  apply wp_seq;apply wp_skip;exact c a w h
 refine wp_scope_jumps (rest:=.seq .skip rest) l J μ (by simp [findLabel,d]) ?_ f;apply wp_seq;refine Code.wp_mono (fun e a w h=>?_) first
 obtain⟨rfl,g⟩:=h;show Code.wp P _ _ a w;apply wp_seq;apply wp_label;show Code.wp P _ _ a w;refine Code.wp_mono (fun e b w' h=>?_) (c a w g);cases e <;> first | exact h | exact⟨h.1,h.2.1⟩
theorem yRe {k:IntKind} {e base cap:Nat} {w:World} {c:Option Addr} {b:List Int} (h:yG k e w base c cap b):b.length≤cap∧cap≤maxLen:=by
 rcases h.2 with ⟨a,h0⟩ | ⟨g,i,j,a,l,m,d,f,n,o⟩
 ·simp only [Value.slice.injEq] at a;unfold maxLen;omega
 ·simp only [Value.slice.injEq] at a;obtain⟨_,_,rfl⟩:=a;exact⟨d,f⟩
theorem yLp (b:Bool) (l:List Int):∀(m i:Nat),i≤yCf b l m i∧yCf b l m i≤i+m
 | 0,i=>⟨zT _,zT _⟩
 | m+1,i=>by
   unfold yCf;split
   ·omega
   ·have:=yLp b l m (i+1);omega
theorem seekF_at (b:Bool) (l:List Int):∀(m i:Nat),yCf b l m i<i+m→decide (yH l (yCf b l m i)=5)=b
 | 0,i,h=>by unfold yCf at h;omega
 | m+1,i,h=>by
   unfold yCf at h ⊢;split
   ·assumption
   ·rename_i a;rw [Zf a] at h;exact seekF_at b l m (i+1) (by omega)
def TermJ (n base:Nat) (ao:Option Addr) (cap:Nat) (sos:Int) (xs:List Int) (w0:World) (a':Act) (wx:World):Prop :=
 ∃(i f:Nat) (zs:List Int),(∃(u2 u3 u5 u6 u7 u8 u9 u10 u11 u12 u13 u14 u15 u16 u17 u18 u19 u20 u21 u22 u23 u24 u25 u26 u27 u28 u29 u30 u31 u32 u33 u34 u35 u36 u37 u38 u39 u40 u41 u42 u43 u44 u45 u46 u47 u48 u49 u50 u51 u52 u53 u54 u55 u56 u57 u58 u59 u60 u61 u62 u63 u64 u65 u66 u67 u68 u69 u70 u71 u72 u73 u74:Value),a'={ tmps:=#[.slice ao n cap,.int .i8 sos,u2,u3,.int .i64 (i:Nat),u5,u6,u7,u8,u9,u10,u11,u12,u13,u14,u15,u16,u17,u18,u19,u20,u21,u22,u23,u24,u25,u26,u27,u28,u29,u30,u31,u32,u33,u34,u35,u36,u37,u38,u39,u40,u41,u42,u43,u44,u45,u46,u47,u48,u49,u50,u51,u52,u53,u54,u55,u56,u57,u58,u59,u60,u61,u62,u63,u64,u65,u66,u67,u68,u69,u70,u71,u72,u73,u74],defers:=[] })∧i≤n∧zs.length=n∧yG .i8 22 wx base ao cap zs∧w0.grownBy wx (Value.slice ao n cap).ownBlock∧n-i<f∧yHv f i zs=yHv (n+1) 0 xs
theorem yN7 (H:Option Addr) (cap base n:Nat) (a9:Int) (xs:List Int) (w:World) (hl:xs.length=n) (hO:yG .i8 22 w base H cap xs) (hn:n≤2097152) :
 Calls Tryz.prog 218 #[.slice H n cap,.int .i8 a9] w (yFi (yHv (n+1) 0 xs) n base H cap w):=by
 have HL:=lh hl;clear hl;have d0:=(yRe hO).1;go_enter Tryz.func218,Tryz.ntmps218;refine yO3 0 (TermJ n base H cap a9 xs w) (fun a' _=>n-(intOf (a'.tmps.getD 4 undef)).toNat) (by rfl) ?_ ?_
 ·go_wp2;exact⟨0,n+1,xs,⟨_,_,_,_,_,_,_,_,_,_,_,_,_,_,_,_,_,_,_,_,_,_,_,_,_,_,_,_,_,_,_,_,_,_,_,_,_,_,_,_,_,_,_,_,_,_,_,_,_,_,_,_,_,_,_,_,_,_,_,_,_,_,_,_,_,_,_,_,_,_,_,_,rfl⟩,by omega,HL.out,hO,yHg _ _,by omega,rfl⟩
 ·rintro a' wr ⟨i,f,a,⟨u2,u3,u5,u6,u7,u8,u9,u10,u11,u12,u13,u14,u15,u16,u17,u18,u19,u20,u21,u22,u23,u24,u25,u26,u27,u28,u29,u30,u31,u32,u33,u34,u35,u36,u37,u38,u39,u40,u41,u42,u43,u44,u45,u46,u47,u48,u49,u50,u51,u52,u53,u54,u55,u56,u57,u58,u59,u60,u61,u62,u63,u64,u65,u66,u67,u68,u69,u70,u71,u72,u73,u74,rfl⟩,d1,b0,M,V,hf,hF⟩;clear hO;have N:=lh b0;have HF:=lh hF;clear b0 hF;obtain⟨f,rfl⟩:∃g,f=g+1:=⟨f-1,by omega⟩;obtain⟨A,W⟩:=nm (yCf true a (n-i) i);have a1:=yLp true a (n-i) i;have a2:=seekF_at true a (n-i) i;rw [W] at a1 a2;obtain⟨B,O⟩:=nm (yCf false a (n-A) A);have a3:=yLp false a (n-A) A;rw [O] at a3;have b1:A<n→A+1≤B:=fun h=>by
   have e:=a2 (by omega);obtain⟨q,v⟩:∃q,n-A=q+1:=⟨n-A-1,by omega⟩;rw [v,yCf,Zf (by rw [e];decide)] at O;have:=yLp false a q (A+1);omega
  have b2:yHv (f+1) i a=if A=n then a else if (0<A∧yH a (A-1)=3)∨(B<n∧yH a B=3) then yHv f B (fillW 3 (B-A) A a) else yHv f B a:=by
   rw [yHv];simp only [N.out,W,O]
  have X:=lh b2;have HA:=lh W;have HB:=lh O;have b3:=lh b1;have x:=lh (fun j (P:j<n)=>M.at j (by have:=N.out;omega));clear b2 W O b1 a2;have d2:A≤n:=(by omega);have b4:B≤n:=(by omega);have d3:A≤B:=a3.1;have d4:i≤A:=a1.1;clear a1 a3;go_wp2;go_loopw [4] (fun c s=>s=wr∧∃(j m:Nat),j+m=n∧i≤j∧c=.int .i64 j∧yCf true a m j=A) (fun c _=>n-(intOf c).toNat)
  case atStart=>exact⟨rfl,i,n-i,by omega,zT _,rfl,HA.out⟩
  case round =>
   obtain⟨l,j,m,b5,d5,rfl,Q⟩:=hrel;have D:=l.symm;clear l;subst D;have Y:=lh b5;have E:=lh Q;clear b5 Q;by_cases o:j<n∧yH a j≠5
   ·obtain⟨P,e⟩:=o;obtain⟨m,rfl⟩:∃q,m=q+1:=⟨m-1,by have:=Y.out;omega⟩;obtain⟨G,rfl,_,_,p,_⟩:=x.out j P;have R:∀y,yH a j=y→yCf true a (m+1) j=if decide (y=5)=true then j else yCf true a m (j+1):=fun y I=>by rw [yCf,I]
    generalize I:yH a j=y at p e;have a4:=lh ((R y I).trans (Zf (by simpa using e)));have c5:(y != 5)=true:=(by simpa using e);clear R I e;go_wp2;go_roundw
    case rel=>exact⟨trivial,j+1,m,by have:=Y.out;omega,by omega,by go_num,by rw [←E.out,a4.out]⟩
    case measure=>simp [intOf];omega
   ·have b6:Hid (j=A):=by
     have b:=E.out;have h2:=Y.out;cases m with
     | zero=>exact b
     | succ m =>
       rw [yCf,Zg (by
        have:yH a j=5:=by
         by_cases h:yH a j=5
         ·exact h
         ·exact qF ⟨by omega,h⟩ o
        rw [this];decide)] at b
       exact b
    go_upto_region 1 with fail;go_cut [17] (fun t s=>t=.bool false∧s=wr)
    case first =>
     by_cases P:j<n
     ·obtain⟨G,rfl,_,_,p,_⟩:=x.out j P;have e:yH a j=5:=by
       by_cases h:yH a j=5
       ·exact h
       ·exact qF ⟨P,h⟩ o
      rw [e] at p;clear o;go_wp2
      all_goals (go_meet;exact⟨rfl,rfl⟩)
     ·clear o;go_wp2
      all_goals (go_meet;exact⟨rfl,rfl⟩)
    case rest =>
     obtain⟨rfl,l⟩:=hcut;have D:=l.symm;clear l;subst D;clear o E Y;have h:=b6.out;clear b6;subst h;by_cases S:j=n
     ·have b7:Hid (a=yHv (n+1) 0 xs):=(X.out.trans (Zg S)).symm.trans HF.out;have cb:((j:Int)==(n:Int))=true:=(by rw [S];simp);clear S X;go_wp2;simp only [Exit.jump]
      go_end0
      exact⟨rfl,by rw [←b7.out];exact N.out,by rw [←b7.out];exact M,V⟩
     ·have Z:=lh (X.out.trans (Zf S));have cb:((j:Int)==(n:Int))=false:=(by simp only [zN];omega);have c7:j<n:=(by omega);have d6:=b3.out c7;clear S X b3;go_wp2;go_loopw [4] (fun c s=>s=wr∧∃(q m:Nat),q+m=n∧j≤q∧c=.int .i64 q∧yCf false a m q=B) (fun c _=>n-(intOf c).toNat)
      case atStart=>exact⟨rfl,j,n-j,by omega,zT _,rfl,HB.out⟩
      case round =>
       obtain⟨l,q,m,b8,d7,rfl,Q⟩:=hrel;have D:=l.symm;clear l;subst D;have a0:=lh b8;have E:=lh Q;clear b8 Q;by_cases o:q<n∧yH a q=5
       ·obtain⟨v,e⟩:=o;obtain⟨m,rfl⟩:∃r,m=r+1:=⟨m-1,by have:=a0.out;omega⟩;obtain⟨G,rfl,_,_,p,_⟩:=x.out q v;have R:∀y,yH a q=y→yCf false a (m+1) q=if decide (y=5)=false then q else yCf false a m (q+1):=fun y I=>by rw [yCf,I]
        rw [e] at p;have a4:=lh ((R 5 e).trans (Zf (by decide)));clear R e;go_wp2;go_roundw
        case rel=>exact⟨trivial,q+1,m,by have:=a0.out;omega,by omega,by go_num,by rw [←E.out,a4.out]⟩
        case measure=>simp [intOf];omega
       ·have b9:Hid (q=B):=by
         have b:=E.out;have h2:=a0.out;cases m with
         | zero=>exact b
         | succ m =>
           rw [yCf,Zg (zP (fun h=>o ⟨by omega,h⟩))] at b;exact b
        go_upto_region 5 with fail;go_cut [35] (fun t s=>t=.bool false∧s=wr)
        case first =>
         by_cases v:q<n
         ·obtain⟨G,rfl,_,_,p,_⟩:=x.out q v;have e:(yH a q==5)=false:=by simpa using fun h=>o ⟨v,h⟩
          generalize yH a q=y at p e;clear o;go_wp2
          all_goals (go_meet;exact⟨rfl,rfl⟩)
         ·clear o;go_wp2
          all_goals (go_meet;exact⟨rfl,rfl⟩)
        case rest =>
         obtain⟨rfl,l⟩:=hcut;have D:=l.symm;clear l;subst D;clear o E a0;have h:=b9.out;clear b9;subst h;obtain⟨C,hC⟩:∃C:Bool,decide ((0<j∧yH a (j-1)=3)∨(q<n∧yH a q=3))=C:=⟨_,rfl⟩;have J:=lh hC;clear hC;go_upto_region 7 with fail;go_cut [60] (fun t s=>t=.bool C∧s=wr)
         case first =>
          by_cases b:0<j∧yH a (j-1)=3
          ·have HT:=lh (J.out.symm.trans (zQ (.inl b)));obtain⟨h0,K⟩:=b;obtain⟨G,rfl,_,_,p,_⟩:=x.out (j-1) (by omega);rw [K] at p;obtain⟨u,rfl⟩:∃u,j=u+1:=⟨j-1,by omega⟩;rw [Ze] at p;clear K;go_wp2
           all_goals (go_meet;exact⟨by rw [HT.out],rfl⟩)
          ·have HP:Hid (C=decide (q<n∧yH a q=3)):=J.out.symm.trans (decide_eq_decide.2 ⟨fun h=>h.resolve_left b,.inr⟩);by_cases v:q<n
           ·obtain⟨G,c8,_,_,p,_⟩:=x.out q v;subst c8;have L:=lh (HP.out.trans (show decide (q<n∧yH a q=3)=(yH a q==3) from ZY.2 (by simp [v])));generalize yH a q=y at p L;by_cases h0:0<j
            ·obtain⟨G',a5,_,_,T,_⟩:=x.out (j-1) (by omega);cases a5;obtain⟨u,rfl⟩:∃u,j=u+1:=⟨j-1,by omega⟩;rw [Ze] at T b;have K:(yH a u==3)=false:=by simpa using fun h=>b ⟨h0,h⟩
             generalize yH a u=z at T K;clear b;go_wp2
             all_goals (go_meet;exact⟨by rw [L.out],rfl⟩)
            ·clear b;go_wp2
             all_goals (go_meet;exact⟨by rw [L.out],rfl⟩)
           ·have L:=lh (HP.out.trans (zP (fun h=>v h.1)));by_cases h0:0<j
            ·obtain⟨G',a5,_,_,T,_⟩:=x.out (j-1) (by omega);subst a5;obtain⟨u,rfl⟩:∃u,j=u+1:=⟨j-1,by omega⟩;rw [Ze] at T b;have K:(yH a u==3)=false:=by simpa using fun h=>b ⟨h0,h⟩
             generalize yH a u=z at T K;clear b;go_wp2
             all_goals (go_meet;exact⟨by rw [L.out],rfl⟩)
            ·clear b;go_wp2
             all_goals (go_meet;exact⟨by rw [L.out],rfl⟩)
         case rest =>
          obtain⟨rfl,l⟩:=hcut;have D:=l.symm;clear l;subst D;have c0:n-q<f:=(by omega);have d8:(q:Int)≤(cap:Int):=(by have b:=HL.out;omega);cases C with
          | false =>
            have HN:=lh (Z.out.trans (Zf (of_decide_eq_false J.out)));clear Z J;go_wp2
            go_step3
            exact⟨rfl,⟨q,f,a,⟨_,_,_,_,_,_,_,_,_,_,_,_,_,_,_,_,_,_,_,_,_,_,_,_,_,_,_,_,_,_,_,_,_,_,_,_,_,_,_,_,_,_,_,_,_,_,_,_,_,_,_,_,_,_,_,_,_,_,_,_,_,_,_,_,_,_,_,_,_,_,_,_,rfl⟩,b4,N.out,M,V,c0,HN.out.symm.trans HF.out⟩,by simp [intOf];omega⟩
          | true =>
            have HN:=lh (Z.out.trans (Zg (JZ J.out)));clear Z J;go_wp2;go_loopw [66] (fun c s=>∃(k d:Nat) (F:List Int),k+d=q-j∧c=.int .i64 k∧F.length=n∧yG .i8 22 s base H cap F∧w.grownBy s (Value.slice H n cap).ownBlock∧fillW 3 d (j+k) F=fillW 3 (q-j) j a) (fun c _=>q-j-(intOf c).toNat)
            case atStart=>exact⟨0,q-j,a,by omega,rfl,N.out,M,V,rfl⟩
            case round =>
             obtain⟨k,d,F,c1,rfl,c2,U,a6,c3⟩:=hrel;have a7:=lh c1;have a8:=lh c2;have c4:=lh c3;clear c1 c2 c3 M V x;by_cases hk:k<q-j
             ·obtain⟨d,rfl⟩:∃d',d=d'+1:=⟨d-1,by have:=a7.out;omega⟩;obtain⟨G,rfl,_,_,p,d9,_,_⟩:=U.at (j+k) (by have:=a8.out;omega);have c6:=lh (And.intro (U.set (j+k) 3) (wk_trans a6 (qH U (j+k) (.int .i8 3)).2));clear U a6;go_wp2;go_roundw
              case rel=>exact⟨k+1,d,F.set (j+k) 3,by have:=a7.out;omega,by go_num,by rw [ZQ];exact a8.out,c6.out.1,c6.out.2,by rw [←c4.out];rfl⟩
              case measure=>simp [intOf];omega
             ·have c9:Hid (F=fillW 3 (q-j) j a):=by
               have b:=c4.out;have h2:=a7.out;rw [show d=0 by omega] at b;exact b
              go_wp2
              go_step3
              exact⟨rfl,⟨q,f,F,⟨_,_,_,_,_,_,_,_,_,_,_,_,_,_,_,_,_,_,_,_,_,_,_,_,_,_,_,_,_,_,_,_,_,_,_,_,_,_,_,_,_,_,_,_,_,_,_,_,_,_,_,_,_,_,_,_,_,_,_,_,_,_,_,_,_,_,_,_,_,_,_,_,rfl⟩,b4,a8.out,U,a6,c0,by rw [c9.out];exact HN.out.symm.trans HF.out⟩,by simp [intOf];omega⟩
end
section
open Go.RowKit
theorem Tryz.info_i8:(Tryz.prog.info? 22).map (fun i=>(i.zero,i.size,i.bytes))=some (some (.int .i8 0),1,1):=by kernel_rfl
def BeganPost (ks:List Int) (sos:Int) (w:World) (e:Ending) (w':World):Prop :=
 ∃ao cap,e=.returned (.tuple #[.slice ao ks.length cap,.int .i8 (if sos=1 then 1 else 0)])∧yG .i8 22 w' w.heap.size ao cap (ks.map lkn)∧Below w w w'
def yQx (ks:List Int) (i:Nat):List Int:=(ks.take i).map lkn++List.replicate (ks.length-i) 0
theorem begF_next (ks:List Int) (i:Nat) (h:i<ks.length):(yQx ks i).set i (lkn (yH ks i))=yQx ks (i+1):=by
 unfold yQx;have e:ks[i]=yH ks i:=by rw [yH,zI,zF h];rfl
 rw [JI h,zW,e,zZ,show ks.length-i=(ks.length-(i+1))+1 by omega,JN];rw [qm _ _ (by simp;omega)]
 congr 1
 have:i-((ks.take i).map lkn).length=0:=by simp;omega
 rw [this];rfl
theorem begF_zero (ks:List Int) (i:Nat) (h:i<ks.length):yH (yQx ks 0) i=0:=by
 unfold yQx yH;rw [zI];simp [h]
theorem begF_len (ks:List Int) (i:Nat) (h:i≤ks.length):(yQx ks i).length=ks.length:=by
 unfold yQx;simp;omega
theorem began_any (q:Option Addr) (ks:List Int) (z:Nat) (g:Int) (w:World) (A:Rd .i8 w q ks) (K:ks.length≤2097152) :
 Calls Tryz.prog 195 #[.slice q ks.length z,.int .i8 g] w (BeganPost ks g w):=by
 obtain⟨B,C,D,E,F⟩:=info_parts (Tryz.info_i8);go_enter Tryz.func195,Tryz.ntmps195;have H:=run_make_row (P:=Tryz.prog) 123 22 B (.int .i8 0) Tryz.underlying123 C D E rfl .i64 .i64 ks.length (by rw [F];omega) (by omega);go_wp2;clear H;have r:=JQ w (.int .i8 0) ks.length 22;have s:yG .i8 22 (w.alloc (.cells (madeCells #[.int .i8 0] ks.length) 22)) w.heap.size (some ⟨w,0,none⟩) ks.length (yQx ks 0) :=
  yCj (r.congr fun i k=>by rw [begF_zero ks i k]) (begF_len ks 0 (by omega)) (zT _) (by unfold maxLen;omega)
 have t:=(Zc w.heap.size w).alloc (zT _) (.cells (madeCells #[.int .i8 0] ks.length) 22);clear r;go_loopw [14] (fun c u=>∃i:Nat,i≤ks.length∧c=.int .i64 i∧yG .i8 22 u w.heap.size (some ⟨w,0,none⟩) ks.length (yQx ks i)∧Below w w u) (fun c _=>ks.length-(intOf c).toNat)
 case atStart=>exact⟨0,by omega,rfl,s,t⟩
 case round =>
  obtain⟨i,k,rfl,b,h⟩:=hrel;clear s t;by_cases l:i<ks.length
  ·obtain⟨L,M,rfl,N,I⟩:=A.at h i l;obtain⟨G,J,O,Q,R,S,_,_⟩:=b.at i (by rw [begF_len ks i k];exact l);cases J;have m:=begF_next ks i l;generalize hy:yH ks i=y at I m;have v:=h.setCell (p:=⟨w.heap.size,i,none⟩) (zT _) (.int .i8 (lkn y));have n:=b.set i (lkn y);rw [m] at n;have d:=lh n;have f:=lh v;clear m n v hy;by_cases a:y<0∨22<y
   ·have e:lkn y=13:=Zg a;rw [e] at d f;rcases a with a | a
    ·clear e;go_wp2;go_roundw
     case rel=>exact⟨i+1,by omega,by go_num,d.out,f.out⟩
     case measure=>simp [intOf];omega
    ·have h0:¬ y<0:=(by omega);clear e;go_wp2;go_roundw
     case rel=>exact⟨i+1,by omega,by go_num,d.out,f.out⟩
     case measure=>simp [intOf];omega
   ·have e:lkn y=y:=Zf a;rw [e] at d f;have h0:¬ y<0:=(by omega);have j:¬ 22<y:=(by omega);clear e a;go_wp2;go_roundw
    case rel=>exact⟨i+1,by omega,by go_num,d.out,f.out⟩
    case measure=>simp [intOf];omega
  ·have o:i=ks.length:=(by omega);have x:yQx ks i=ks.map lkn:=(by unfold yQx;rw [o,Zp,Zk,List.replicate_zero,zq]);rw [x] at b;have T:=lh o;clear o x;by_cases j:g=1
   ·subst j;go_wp2
    go_ret2
    exact⟨_,_,rfl,b,h⟩
   ·have U:(g != 1)=true:=(by simpa using j);go_wp2
    go_ret2
    exact⟨_,_,by rw [Zf j];rfl,b,h⟩
end
section
open Go.RowKit
def yHm:Array Value:=#[.func (.func 214) #[] #[],.func (.func 215) #[] #[],.func (.func 216) #[] #[],.func (.func 217) #[] #[],.func (.func 218) #[] #[],.func (.func 219) #[] #[],.func (.func 220) #[] #[]]
theorem rules_any (w:World):Calls Tryz.prog 196 #[] w fun e w'=>e=.returned (.agg yHm)∧Below w w w':=by
 go_enter Tryz.func196,Tryz.ntmps196;go_upto_region 1 with fail;go_wp2_with (refine wpList_store_row rfl 273 (.tmp 0) (.tmp 1) rfl w.heap.size yHm rfl rfl 273 _ (JS w _) (by kernel_rfl) rfl (by kernel_rfl) ?_);refine qC (JT rfl _ _ w.heap.size _ _ _ _ rfl (setRow_heap _ _ _ _ _ _ (JS w _)) Tryz.underlying273 rfl (by kernel_rfl)) rfl ⟨rfl,?_⟩;exact yD0 w _ _
theorem rules_0 (w:World):Sem.run Tryz.prog (Instr.index 273 (.agg yHm) (.int .i64 0)) w=.ok (.func (.func 214) #[] #[]) w:=by kernel_rfl
theorem rules_1 (w:World):Sem.run Tryz.prog (Instr.index 273 (.agg yHm) (.int .i64 1)) w=.ok (.func (.func 215) #[] #[]) w:=by kernel_rfl
theorem rules_2 (w:World):Sem.run Tryz.prog (Instr.index 273 (.agg yHm) (.int .i64 2)) w=.ok (.func (.func 216) #[] #[]) w:=by kernel_rfl
theorem rules_3 (w:World):Sem.run Tryz.prog (Instr.index 273 (.agg yHm) (.int .i64 3)) w=.ok (.func (.func 217) #[] #[]) w:=by kernel_rfl
theorem rules_4 (w:World):Sem.run Tryz.prog (Instr.index 273 (.agg yHm) (.int .i64 4)) w=.ok (.func (.func 218) #[] #[]) w:=by kernel_rfl
theorem rules_5 (w:World):Sem.run Tryz.prog (Instr.index 273 (.agg yHm) (.int .i64 5)) w=.ok (.func (.func 219) #[] #[]) w:=by kernel_rfl
theorem rules_6 (w:World):Sem.run Tryz.prog (Instr.index 273 (.agg yHm) (.int .i64 6)) w=.ok (.func (.func 220) #[] #[]) w:=by kernel_rfl
def ruleF (n:Nat) (s:Int):Nat→List Int→List Int
 | 0,l=>yEm n 0 s l
 | 1,l=>yCa n 0 s l
 | 2,l=>yB1 n 0 l
 | 3,l=>yOa (n-2) 1 l
 | 4,l=>yHv (n+1) 0 l
 | 5,l=>yC1 n 0 l
 | _,l=>yB8 n 0 s l
def yL9 (n:Nat) (s:Int) (l:List Int):Nat→List Int
 | 0=>l
 | k+1=>ruleF n s k (yL9 n s l k)
theorem stage_all (ks:List Int) (a:Int):yL9 ks.length (if a=1 then 1 else 0) (ks.map lkn) 7=weakF ks a:=rfl
def yRd (ks:List Int) (sos:Int) (w:World) (e:Ending) (w':World):Prop :=
 ∃ao cap,e=.returned (.slice ao ks.length cap)∧(weakF ks sos).length=ks.length∧yG .i8 22 w' w.heap.size ao cap (weakF ks sos)∧Below w w w'
theorem WResolve_any (z:Option Addr) (ks:List Int) (G:Nat) (p:Int) (w:World) (x:Rd .i8 w z ks) (j:ks.length≤2097152) :
 Calls Tryz.prog 144 #[.slice z ks.length G,.int .i8 p] w (yRd ks p w):=by
 have q:=began_any z ks G p w x j;have r:=stage_all ks p;obtain⟨s,H⟩:∃s:Int,(if p=1 then 1 else 0)=s:=⟨_,rfl⟩;unfold BeganPost at q;rw [H] at q r;obtain⟨v,A⟩:=nm (ks.map lkn);have C:v.length=ks.length:=by rw [←A];simp
 rw [A] at q r;obtain⟨n,y⟩:=nm (ks.length);rw [y] at q r j C ⊢;obtain⟨B,R⟩:=nm (w.heap.size);have I:∀a cap w',(yL9 n s v 7).length=n→yG .i8 22 w' w.heap.size a cap (yL9 n s v 7)→Below w w w'→yRd ks p w (.returned (.slice a n cap)) w':=fun a cap w' b d f =>
  ⟨a,cap,by rw [y],by rw [←r,y];exact b,by rw [←r];exact d,f⟩
 have O:=lh I;have P:=lh C;clear x H A y r I C;go_enter Tryz.func144,Tryz.ntmps144;go_wp2_with (first | (go_at_call 195;refine q.mono ?_;rintro e w1 ⟨a,cap,rfl,t,D⟩) | (go_at_call 196;refine (rules_any w1).mono ?_;rintro e S ⟨rfl,E⟩));have J:=D.trans (E.mono D.size);have K:=yG.keep t E;clear q D E t;have T:=rules_0;have U:=rules_1;have V:=rules_2;have W:=rules_3;have X:=rules_4;have Y:=rules_5;have Z:=rules_6;go_loopw [15] (fun c L=>∃i:Nat,i≤7∧c=.int .i64 i∧(yL9 n s v i).length=n∧yG .i8 22 L w.heap.size a cap (yL9 n s v i)∧Below w w L) (fun c _=>7-(intOf c).toNat)
 case atStart=>exact⟨0,by omega,rfl,P.out,K,J⟩
 case round =>
  obtain⟨i,Q,rfl,F,t,g⟩:=hrel;have l:=lh F;have m:=lh t;have M:∀k,(Value.slice a n cap).ownBlock=some k→w.heap.size≤k:=fun k x=>(ZW t k (by rw [F];exact x)).1;have o:=lh M;clear F t K J M;by_cases N:i=7
  ·subst N;go_wp2;go_ret;exact O.out a cap _ l.out m.out g
  ·have h:i=0∨i=1∨i=2∨i=3∨i=4∨i=5∨i=6:=(by omega);clear N Q;rcases h with rfl | rfl | rfl | rfl | rfl | rfl | rfl
   all_goals
    go_wp2_with (first | (go_at_call 214;refine (marks_any a cap w.heap.size n s _ wr l.out m.out j).mono ?_;rintro e u ⟨rfl,b,d,f⟩) | (go_at_call 215;refine (arabic_any a cap w.heap.size n s _ wr l.out m.out j).mono ?_;rintro e u ⟨rfl,b,d,f⟩) | (go_at_call 216;refine (letters_any a cap w.heap.size n s _ wr l.out m.out j).mono ?_;rintro e u ⟨rfl,b,d,f⟩) | (go_at_call 217;refine (yOu a cap w.heap.size n s _ wr l.out m.out j).mono ?_;rintro e u ⟨rfl,b,d,f⟩) | (go_at_call 218;refine (yN7 a cap w.heap.size n s _ wr l.out m.out j).mono ?_;rintro e u ⟨rfl,b,d,f⟩) | (go_at_call 219;refine (others_any a cap w.heap.size n s _ wr l.out m.out j).mono ?_;rintro e u ⟨rfl,b,d,f⟩) | (go_at_call 220;refine (digits_any a cap w.heap.size n s _ wr l.out m.out j).mono ?_;rintro e u ⟨rfl,b,d,f⟩));go_roundw
    case rel=>first | exact⟨1,by omega,rfl,b,d,g.grown f g.size o.out⟩ | exact⟨2,by omega,rfl,b,d,g.grown f g.size o.out⟩ | exact⟨3,by omega,rfl,b,d,g.grown f g.size o.out⟩ | exact⟨4,by omega,rfl,b,d,g.grown f g.size o.out⟩ | exact⟨5,by omega,rfl,b,d,g.grown f g.size o.out⟩ | exact⟨6,by omega,rfl,b,d,g.grown f g.size o.out⟩ | exact⟨7,by omega,rfl,b,d,g.grown f g.size o.out⟩
    case measure=>simp [intOf]
end
section
open Go.RowKit
theorem yBw (d:Int) (w:World):Calls Tryz.prog 137 #[.int .i8 d] w fun e w'=>e=.returned (.int .i8 (lkn d))∧w=w':=by
 go_enter Tryz.func137,Tryz.ntmps137;go_wp2
 all_goals (go_ret;refine⟨yK ?_,rfl⟩;unfold lkn;first | rw [Zg (by omega)] | rw [Zf (by omega)])
theorem yM2 (d:Int) (w:World):Calls Tryz.prog 187 #[.int .i8 d] w fun e w'=>e=.returned (.bool (yDp d))∧w=w':=by
 go_enter Tryz.func187,Tryz.ntmps187;go_wp2
 all_goals (go_ret;refine⟨yAk ?_,rfl⟩;unfold yDp;rw [ZY];simp;try omega)
theorem yr (d:Int) (w:World):Calls Tryz.prog 179 #[.int .i8 d] w fun e w'=>e=.returned (.bool (yBk d))∧w=w':=by
 go_enter Tryz.func179,Tryz.ntmps179;go_wp2
 all_goals (go_ret;refine⟨yAk ?_,rfl⟩;unfold yBk;rw [ZY];simp;try omega)
theorem yL7 (a:Option Addr) (g:List Int) (n cap:Nat) (w:World) (z:g.length=n) (r:Rd .i8 w a g) (O:n≤2097152) :
 Calls Tryz.prog 138 #[.slice a n cap] w fun e w'=>e=.returned (.int .i8 (yEl g))∧w'=w:=by
 have P:=lh z;have H:=lh (fun i (B:i<n)=>r.at (Zc _ _) i (by omega));have u:Hid (yEl g=yD1 g n 0 0):=by rw [←z];rfl
 clear z r;go_enter Tryz.func138,Tryz.ntmps138;go_wp2;go_loopw [3,8] (fun I c J=>J=w∧∃(i m b:Nat),i+m=n∧I=.int .i64 b∧c=.int .i64 i∧b≤i∧yD1 g m i b=yD1 g n 0 0) (fun _ c _=>n-(intOf c).toNat)
 case atStart=>exact⟨rfl,0,n,0,by omega,rfl,rfl,by omega,rfl⟩
 case round =>
  obtain⟨C,i,m,b,D,rfl,rfl,Q,E⟩:=hrel;have K:=C.symm;clear C;subst K;have s:=lh D;have l:=lh E;clear D E;by_cases B:i<n
  ·obtain⟨m,rfl⟩:∃q,m=q+1:=⟨m-1,by have:=s.out;omega⟩;obtain⟨G,o,rfl,_,L⟩:=H.out i B;have A:∀d,lkn (yH g i)=d→yD1 g (m+1) i b=if yBk d=true then yD1 g m (i+1) (b+1) else if d=22∧0<b then yD1 g m (i+1) (b-1) else if d=22∨d=10 then 13
    else if b=0∧(d=0∨d=1∨d=2) then d else yD1 g m (i+1) b:=fun d h=>by rw [yD1,h]
   generalize yH g i=y at L A;obtain⟨d,r⟩:=nm (lkn y);have f:=A d r;have p:Hid (∀W,Calls Tryz.prog 137 #[.int .i8 y] W fun e w'=>e=.returned (.int .i8 d)∧W=w'):=fun W=>by rw [←r];exact yBw y W
   clear A r;by_cases v:yBk d=true
   ·have j:=lh (f.trans (Zg v));clear f;go_wp2_with (first | (go_at_call 137;refine (p.out _).mono ?_;rintro e w' ⟨rfl,rfl⟩) | (go_at_call 179;refine (yr _ _).mono ?_;rintro e w' ⟨rfl,rfl⟩));go_roundw
    case rel=>exact⟨trivial,i+1,m,b+1,by have:=s.out;omega,rfl,by go_num,by omega,by rw [←l.out,j.out]⟩
    case measure=>simp [intOf];omega
   ·rw [Zf v] at f;have R:yBk d=false:=(by simpa using v);clear v;by_cases t:d=22
    ·subst t;by_cases F:0<b
     ·have j:=lh (f.trans (Zg ⟨rfl,F⟩));clear f;obtain⟨M,rfl⟩:∃q,b=q+1:=⟨b-1,by omega⟩;rw [Ze] at j;go_wp2_with (first | (go_at_call 137;refine (p.out _).mono ?_;rintro e w' ⟨rfl,rfl⟩) | (go_at_call 179;refine (yr _ _).mono ?_;rintro e w' ⟨rfl,rfl⟩));go_roundw
      case rel=>exact⟨trivial,i+1,m,M,by have:=s.out;omega,rfl,by go_num,by omega,by rw [←l.out,j.out]⟩
      case measure=>simp [intOf];omega
     ·have j:=lh ((f.trans (Zf (fun h=>F h.2))).trans (Zg (.inl rfl)));clear f;go_wp2_with (first | (go_at_call 137;refine (p.out _).mono ?_;rintro e w' ⟨rfl,rfl⟩) | (go_at_call 179;refine (yr _ _).mono ?_;rintro e w' ⟨rfl,rfl⟩));go_ret;exact⟨yK (by rw [u.out,←l.out,j.out]),rfl⟩
    ·have S:(d==22)=false:=(by simpa using t);rw [Zf (fun h=>t h.1)] at f;by_cases x:d=10
     ·subst x;have j:=lh (f.trans (Zg (.inr rfl)));clear f t;go_wp2_with (first | (go_at_call 137;refine (p.out _).mono ?_;rintro e w' ⟨rfl,rfl⟩) | (go_at_call 179;refine (yr _ _).mono ?_;rintro e w' ⟨rfl,rfl⟩));go_ret;exact⟨yK (by rw [u.out,←l.out,j.out]),rfl⟩
     ·have T:(d==10)=false:=(by simpa using x);rw [Zf (fun h=>h.elim t x)] at f;clear t x;by_cases h0:b=0
      ·subst h0;by_cases k:d=0∨d=1∨d=2
       ·have j:=lh (f.trans (Zg ⟨rfl,k⟩));clear f;rcases k with k | k | k
        all_goals
         subst k;go_wp2_with (first | (go_at_call 137;refine (p.out _).mono ?_;rintro e w' ⟨rfl,rfl⟩) | (go_at_call 179;refine (yr _ _).mono ?_;rintro e w' ⟨rfl,rfl⟩));go_ret;exact⟨yK (by rw [u.out,←l.out,j.out]),rfl⟩
       ·have j:=lh (f.trans (Zf (fun h=>k h.2)));have U:(d==0)=false:=(by simp only [not_or] at k;simpa using k.1);have V:(d==1)=false:=(by simp only [not_or] at k;simpa using k.2.1);have X:(d==2)=false:=(by simp only [not_or] at k;simpa using k.2.2);clear f k;go_wp2_with (first | (go_at_call 137;refine (p.out _).mono ?_;rintro e w' ⟨rfl,rfl⟩) | (go_at_call 179;refine (yr _ _).mono ?_;rintro e w' ⟨rfl,rfl⟩));go_roundw
        case rel=>exact⟨trivial,i+1,m,0,by have:=s.out;omega,rfl,by go_num,by omega,by rw [←l.out,j.out]⟩
        case measure=>simp [intOf];omega
      ·have j:=lh (f.trans (Zf (fun h=>h0 h.1)));have Y:((b:Int)==0)=false:=(by simp only [zN];omega);clear f;go_wp2_with (first | (go_at_call 137;refine (p.out _).mono ?_;rintro e w' ⟨rfl,rfl⟩) | (go_at_call 179;refine (yr _ _).mono ?_;rintro e w' ⟨rfl,rfl⟩));go_roundw
       case rel=>exact⟨trivial,i+1,m,b,by have:=s.out;omega,rfl,by go_num,by omega,by rw [←l.out,j.out]⟩
       case measure=>simp [intOf];omega
  ·have h0:m=0:=(by have:=s.out;omega);have N:Hid ((13:Int)=yD1 g n 0 0):=(by subst h0;exact l);go_wp2;go_ret;exact⟨yK (by rw [u.out,←N.out]),rfl⟩
theorem after_any (a:Option Addr) (f:List Int) (n cap fr:Nat) (w:World) (x:f.length=n) (k:Rd .i8 w a f) (M:n≤2097152) (N:fr≤n) :
 Calls Tryz.prog 139 #[.slice a n cap,fr] w fun e w'=>e=.returned (.int .i64 (yBu f (n-fr) fr 0))∧w'=w:=by
 have O:=lh x;have F:=lh (fun i (z:i<n)=>k.at (Zc _ _) i (by omega));clear x k;go_enter Tryz.func139,Tryz.ntmps139;go_wp2;go_loopw [5,6] (fun H c I=>I=w∧∃(i m b:Nat),i+m=n∧H=.int .i64 b∧c=.int .i64 i∧b≤i∧yBu f m i b=yBu f (n-fr) fr 0) (fun _ c _=>n-(intOf c).toNat)
 case atStart=>exact⟨rfl,fr,n-fr,0,by omega,rfl,rfl,by omega,rfl⟩
 case round =>
  obtain⟨A,i,m,b,B,rfl,rfl,P,C⟩:=hrel;have J:=A.symm;clear A;subst J;have r:=lh B;have l:=lh C;clear B C;by_cases z:i<n
  ·obtain⟨m,rfl⟩:∃q,m=q+1:=⟨m-1,by have:=r.out;omega⟩;obtain⟨G,o,rfl,_,K⟩:=F.out i z;have v:∀d,lkn (yH f i)=d→yBu f (m+1) i b=if yBk d=true then yBu f m (i+1) (b+1) else if d=22∧b=0 then (i:Int)+1 else if d=22 then yBu f m (i+1) (b-1)
    else if d=10 then -1 else yBu f m (i+1) b:=fun d h=>by rw [yBu,h]
   generalize yH f i=y at K v;obtain⟨d,k⟩:=nm (lkn y);have g:=v d k;have s:Hid (∀W,Calls Tryz.prog 137 #[.int .i8 y] W fun e w'=>e=.returned (.int .i8 d)∧W=w'):=fun W=>by rw [←k];exact yBw y W
   clear v k;by_cases t:yBk d=true
   ·have j:=lh (g.trans (Zg t));clear g;go_wp2_with (first | (go_at_call 137;refine (s.out _).mono ?_;rintro e w' ⟨rfl,rfl⟩) | (go_at_call 179;refine (yr _ _).mono ?_;rintro e w' ⟨rfl,rfl⟩));go_roundw
    case rel=>exact⟨trivial,i+1,m,b+1,by have:=r.out;omega,rfl,by go_num,by omega,by rw [←l.out,j.out]⟩
    case measure=>simp [intOf];omega
   ·rw [Zf t] at g;have Q:yBk d=false:=(by simpa using t);clear t;by_cases p:d=22
    ·subst p;by_cases D:b=0
     ·subst D;have j:=lh (g.trans (Zg ⟨rfl,rfl⟩));clear g;go_wp2_with (first | (go_at_call 137;refine (s.out _).mono ?_;rintro e w' ⟨rfl,rfl⟩) | (go_at_call 179;refine (yr _ _).mono ?_;rintro e w' ⟨rfl,rfl⟩));go_ret;exact⟨yK (by rw [←l.out,j.out]),rfl⟩
     ·have j:=lh ((g.trans (Zf (fun h=>D h.2))).trans (Zg rfl));clear g;obtain⟨E,rfl⟩:∃q,b=q+1:=⟨b-1,by omega⟩;rw [Ze] at j;have R:(((E+1:Nat):Int)==0)=false:=(by simp only [zN];omega);go_wp2_with (first | (go_at_call 137;refine (s.out _).mono ?_;rintro e w' ⟨rfl,rfl⟩) | (go_at_call 179;refine (yr _ _).mono ?_;rintro e w' ⟨rfl,rfl⟩));go_roundw
      case rel=>exact⟨trivial,i+1,m,E,by have:=r.out;omega,rfl,by go_num,by omega,by rw [←l.out,j.out]⟩
      case measure=>simp [intOf];omega
    ·have S:(d==22)=false:=(by simpa using p);rw [Zf (fun h=>p h.1),Zf p] at g;by_cases u:d=10
     ·subst u;have j:=lh (g.trans (Zg rfl));clear g p;go_wp2_with (first | (go_at_call 137;refine (s.out _).mono ?_;rintro e w' ⟨rfl,rfl⟩) | (go_at_call 179;refine (yr _ _).mono ?_;rintro e w' ⟨rfl,rfl⟩));go_ret;exact⟨yK (by rw [←l.out,j.out]),rfl⟩
     ·have T:(d==10)=false:=(by simpa using u);have j:=lh (g.trans (Zf u));clear p u g;go_wp2_with (first | (go_at_call 137;refine (s.out _).mono ?_;rintro e w' ⟨rfl,rfl⟩) | (go_at_call 179;refine (yr _ _).mono ?_;rintro e w' ⟨rfl,rfl⟩));go_roundw
      case rel=>exact⟨trivial,i+1,m,b,by have:=r.out;omega,rfl,by go_num,by omega,by rw [←l.out,j.out]⟩
      case measure=>simp [intOf];omega
  ·have h0:m=0:=(by have:=r.out;omega);have L:Hid ((-1:Int)=yBu f (n-fr) fr 0):=(by subst h0;exact l);go_wp2;go_ret;exact⟨yK (by rw [←L.out]),rfl⟩
end
section
open Go.RowKit
theorem yI2 (b:List Int):∀(m i a:Nat),yBu b m i a = -1∨((i:Int)+1≤yBu b m i a∧yBu b m i a≤(i:Int)+m)
 | 0,i,a=>.inl rfl
 | m+1,i,a=>by
   have c:=yI2 b m (i+1) (a+1);have d:=yI2 b m (i+1) (a-1);have e:=yI2 b m (i+1) a;unfold yBu;split
   ·rcases c with h | h
    ·exact .inl h
    ·exact .inr (by omega)
   ·split
    ·exact .inr (by omega)
    ·split
     ·rcases d with h | h
      ·exact .inl h
      ·exact .inr (by omega)
     ·split
      ·exact .inl rfl
      ·rcases e with h | h
       ·exact .inl h
       ·exact .inr (by omega)
theorem skipF_bd (a:List Int):∀(m i:Nat),i≤skipF a m i∧skipF a m i≤i+m
 | 0,i=>⟨zT _,zT _⟩
 | m+1,i=>by
   have:=skipF_bd a m (i+1);unfold skipF;split <;> omega
theorem yI4 {k:IntKind} {w:World} {b o:Nat} {xs:List Int} (h:Rd k w (some ⟨b,o,none⟩) xs) (i:Nat):Rd k w (some ⟨b,o+i,none⟩) (xs.drop i):=by
 rcases h with h | ⟨f,g,a,c,d⟩
 ·subst h;exact .inl (by simp)
 ·cases a;refine .inr ⟨b,o+i,rfl,c,fun j e=>?_⟩;rw [zy] at e;have:=d (i+j) (by omega);rw [show o+i+j=o+(i+j) by omega,this]
  congr 2
  simp [yH]
theorem Base_fuel (r:Int) (w:World):∀(f:Nat) (a:Option Addr) (j:List Int) (n cap:Nat),j.length=n→n<f→Rd .i8 w a j→n≤2097152→n≤cap→cap≤maxLen →
 Calls Tryz.prog 98 #[.slice a n cap,.int .i8 r] w fun e w'=>e=.returned (.int .u8 (yNg r f j))∧w'=w
 | 0,_,_,_,_,_,h,_,_,_,_=>qF h (by omega)
 | f+1,a,j,n,cap,hl,hf,s,hn,hc,hm=>by
   unfold maxLen at hm;have P:=Base_fuel r w f;have Q:=lh P;clear P;have x:=lh hl;have J:=lh s;have HC:=lh (fun i (T:i<n)=>s.at (Zc _ _) i (by omega));obtain⟨V,b⟩:=nm (yNg r (f+1) j);rw [b];rw [yNg,hl] at b;clear hl s;go_enter Tryz.func98,Tryz.ntmps98;by_cases z:r=1
   ·subst z;rw [Zg rfl] at b;have g:=lh b;clear b;go_wp2;go_ret;exact⟨yK g.out,rfl⟩
   ·rw [Zf z] at b;have b1:(r==1)=false:=(by simpa using z);clear z;by_cases B:r=2
    ·subst B;rw [Zg rfl] at b;have g:=lh b;clear b;go_wp2;go_ret;exact⟨yK g.out,rfl⟩
    ·rw [Zf B] at b;have b2:(r==2)=false:=(by simpa using B);clear B;obtain⟨S,K⟩:=nm (skipF j n 0);have a5:=(skipF_bd j n 0).2;rw [K] at b a5;have g:=lh b;have U:=lh K;clear b K;go_wp2;go_loopw [16] (fun c wx=>wx=w∧∃(i m:Nat),i+m=n∧c=.int .i64 i∧skipF j m i=S) (fun c _=>n-(intOf c).toNat)
     case atStart=>exact⟨rfl,0,n,by omega,rfl,U.out⟩
     case round =>
      obtain⟨X,i,m,Y,rfl,Z⟩:=hrel;have a6:=X.symm;clear X;subst a6;have C:=lh Y;have D:=lh Z;clear Y Z;by_cases T:i<n
      ·obtain⟨m,rfl⟩:∃q,m=q+1:=⟨m-1,by have:=C.out;omega⟩;obtain⟨G,o,rfl,b4,a7⟩:=HC.out i T;have L:∀d,lkn (yH j i)=d→skipF j (m+1) i=if d=22 then skipF j m (i+1) else i:=fun d h=>by rw [skipF,h]
       have a0:∀d,lkn (yH j i)=d→lkn (yH j i)=d:=fun d h=>h;generalize hy:yH j i=y at a7 L a0;obtain⟨d,s⟩:=nm (lkn y);have E:=L d s;have M:Hid (∀W,Calls Tryz.prog 137 #[.int .i8 y] W fun e w'=>e=.returned (.int .i8 d)∧W=w'):=fun W=>by rw [←s];exact yBw y W
       have a8:=lh (show lkn (yH j i)=d by rw [hy];exact s);clear L s a0 hy;by_cases t:d=22
       ·have HN:=lh (E.trans (Zg t));subst t;clear E;go_wp2_with (go_at_call 137;refine (M.out _).mono ?_;rintro e w' ⟨rfl,rfl⟩);go_roundw
        case rel=>exact⟨trivial,i+1,m,by have:=C.out;omega,by go_num,by rw [←D.out,HN.out]⟩
        case measure=>simp [intOf];omega
       ·have a1:i=S:=(E.trans (Zf t)).symm.trans D.out;have b5:(d==22)=false:=(by simpa using t);clear E t;subst a1;have b:=g.out;clear g U D;rw [Zf (by omega),a8.out] at b;by_cases u:d=10
        ·rw [Zg u] at b;have g:=lh b;subst u;clear b;go_wp2_with (go_at_call 137;refine (M.out _).mono ?_;rintro e w' ⟨rfl,rfl⟩);go_ret;exact⟨yK g.out,rfl⟩
        ·rw [Zf u] at b;have b6:(d==10)=false:=(by simpa using u);have a2:=lh (yL7 (some ⟨G,o+i,none⟩) (j.drop i) (n-i) (cap-i) w (by rw [zy,x.out]) (yI4 J.out i) (by omega));obtain⟨R,hR⟩:=nm (yEl (j.drop i));rw [hR] at b a2;have g:=lh b;have g1:(i:Int)≤(n:Int):=(by omega);have g2:(n:Int)≤(cap:Int):=(by omega);have g3:¬ cap=i:=(by omega);clear b hR u;go_upto_region 14 with (first | (go_at_call 137;refine (M.out _).mono ?_;rintro e w' ⟨rfl,rfl⟩) | (go_at_call 138;refine (a2.out).mono ?_;rintro e w' ⟨rfl,k⟩;have l:=k.symm;clear k;subst l));by_cases F:R=13
         ·subst F;have b:=g.out;clear g;rw [Zg rfl] at b;have H:=lh (after_any (some ⟨G,o,none⟩) j n cap i w x.out J.out hn (by omega));have I:=yI2 j (n-i) i 0;obtain⟨A,N⟩:=nm (yBu j (n-i) i 0);rw [N] at b H I;by_cases a3:(i:Int)<A
          ·rw [Zg a3] at b;obtain⟨p,rfl⟩:∃p:Nat,A=(p:Int):=Int.eq_ofNat_of_zero_le (by omega);rw [ZC] at b;have g:=lh b;have g4:(p:Int)≤(n:Int):=(by omega);have g5:(0:Int)≤(p:Int):=(by omega);clear b N;by_cases a9:cap=p
           ·have b0:p=n:=(by omega);subst b0;subst a9;have a4:j.drop cap=[]:=(by rw [List.drop_eq_nil_iff];have:=x.out;omega);have O:=g.out;rw [a4] at O;have v:=lh (Q.out (some ⟨G,o,none⟩) [] 0 0 rfl (by omega) (.inl rfl) (by omega) (by omega) (by unfold maxLen;omega));rw [O] at v;clear I O a4;go_upto_region 17 with (go_at_call 139;refine (H.out).mono ?_;rintro e w' ⟨rfl,k⟩;have l:=k.symm;clear k;subst l);go_wp2_with (go_at_call 98;refine (v.out).mono ?_;rintro e w' ⟨rfl,k⟩;have l:=k.symm;clear k;subst l);go_ret;exact⟨rfl,rfl⟩
           ·have v:=lh (Q.out (some ⟨G,o+p,none⟩) (j.drop p) (n-p) (cap-p) (by rw [zy,x.out]) (by omega) (yI4 J.out p) (by omega) (by omega) (by unfold maxLen;omega));rw [g.out] at v;clear I;go_upto_region 17 with (go_at_call 139;refine (H.out).mono ?_;rintro e w' ⟨rfl,k⟩;have l:=k.symm;clear k;subst l);go_wp2_with (go_at_call 98;refine (v.out).mono ?_;rintro e w' ⟨rfl,k⟩;have l:=k.symm;clear k;subst l);go_ret;exact⟨rfl,rfl⟩
          ·rw [Zf a3] at b;have g:=lh b;clear b N I;go_wp2_with (go_at_call 139;refine (H.out).mono ?_;rintro e w' ⟨rfl,k⟩;have l:=k.symm;clear k;subst l);go_ret;exact⟨yK g.out,rfl⟩
         ·have b:=g.out;rw [Zf F] at b;have b7:(R==13)=false:=(by simpa using F);clear g F;by_cases h0:R=0
          ·rw [Zf (fun h=>h h0)] at b;have g:=lh b;have c0:(R != 0)=false:=(by simpa using h0);clear b h0;go_wp2;go_ret;exact⟨yK g.out,rfl⟩
          ·rw [Zg h0] at b;have g:=lh b;have c0:(R != 0)=true:=(by simpa using h0);clear b h0;go_wp2;go_ret;exact⟨yK g.out,rfl⟩
      ·have h0:m=0:=(by have:=C.out;omega);have a1:i=S:=(by have:=D.out;rw [h0] at this;exact this);have b8:i=n:=(by have:=C.out;omega);have b:=g.out;rw [Zg (by omega)] at b;have b3:=lh b;clear b g;go_wp2;go_ret;exact⟨yK b3.out,rfl⟩
theorem Base_any (c:Int) (a:Option Addr) (b:List Int) (n cap:Nat) (w:World) (d:b.length=n) (f:Rd .i8 w a b) (g:n≤2097152) (h:n≤cap) (i:cap≤maxLen) :
 Calls Tryz.prog 98 #[.slice a n cap,.int .i8 c] w fun e w'=>e=.returned (.int .u8 (yIm b c))∧w'=w:=by
 subst d;exact Base_fuel c w (b.length+1) a b b.length cap rfl (by omega) f g h i
end
section
open Go.RowKit
theorem Tryz.info_int:(Tryz.prog.info? 3).map (fun i=>(i.zero,i.size,i.bytes))=some (some (.int .i64 0),1,8):=by kernel_rfl
def yJ4 (ds:List Int) (n:Nat) (w:World) (e:Ending) (w':World):Prop :=
 e=.returned (.slice (some ⟨w,0,none⟩) n n)∧(yDi ds).length=n∧yG .i64 3 w' w.heap.size (some ⟨w,0,none⟩) n (yDi ds)∧Below w w w'
theorem rep_zero (n i:Nat) (h:i<n):yH (List.replicate n 0) i=0:=by
 unfold yH;rw [zI];simp [h]
theorem lp_kept {k:IntKind} {e base cap B:Nat} {a b:World} {c:Obj} {d:List Int} {row:Option Nat} (h:yG k e a base (some ⟨B,0,none⟩) cap d) (f:(a.alloc c).grownBy b row) (g:∀j,row=some j→B<j):yG k e b base (some ⟨B,0,none⟩) cap d:=by
 refine JC (qP h c) f (.inr fun e=>?_);have:=g B e.symm;omega
theorem lp_two {w b:World} {t c d n L:Nat} {a:List Nat} {e:List Int} (f:yG .i64 t b w.heap.size (some ⟨w,0,none⟩) n e)
 (g:b.ownsRow (w.heap.size+1) t 1 (.slice (some ⟨c,0,none⟩) a.length d) a.length (yDc a)) (h:Below w w b) (s:a.length=L+1) (l:w.heap.size+1≤b.heap.size) (i j:Nat) :
 ((b.setCell ⟨w.heap.size,i,none⟩ (.int .i64 j)).setCell ⟨w.heap.size,j,none⟩ (.int .i64 i)).drew.ownsRow (w.heap.size+1) t 1 (.slice (some ⟨c,0,none⟩) L d) (a.take L).length (yDc (a.take L)) ∧
 yG .i64 t ((b.setCell ⟨w.heap.size,i,none⟩ (.int .i64 j)).setCell ⟨w.heap.size,j,none⟩ (.int .i64 i)).drew w.heap.size (some ⟨w,0,none⟩) n ((e.set i (j:Int)).set j (i:Int)) ∧
 w.heap.size+1≤((b.setCell ⟨w.heap.size,i,none⟩ (.int .i64 j)).setCell ⟨w.heap.size,j,none⟩ (.int .i64 i)).drew.heap.size ∧
 Below w w ((b.setCell ⟨w.heap.size,i,none⟩ (.int .i64 j)).setCell ⟨w.heap.size,j,none⟩ (.int .i64 i)).drew:=by
 have m:=ownsRow_setCell_below (ownsRow_setCell_below g (show (⟨w.heap.size,i,none⟩:Addr).block<w.heap.size+1 from Zn _) (.int .i64 j)) (show (⟨w.heap.size,j,none⟩:Addr).block<w.heap.size+1 from Zn _) (.int .i64 i);refine⟨?_,(f.set i j).set j i,by simpa [World.setCell] using l,((h.setCell (p:=⟨w.heap.size,i,none⟩) (zT _) _).setCell (p:=⟨w.heap.size,j,none⟩) (zT _) _).drew⟩;have o:=ownsRow_take (k:=L) m (by omega) (by omega) (by unfold yDc;simp);have q:(a.take L).length=L:=by rw [za];omega
 have r:yDc (a.take L)=(yDc a).take (L*1):=by unfold yDc;rw [List.map_take,Nat.mul_one]
 rw [q,r];exact o
theorem yO2 (a:Option Addr) (g:List Int) (n cap:Nat) (w:World) (U:g.length=n) (hd:Rd .i8 w a g) (hn:n≤2097152) :
 Calls Tryz.prog 186 #[.slice a n cap] w (yJ4 g n w):=by
 obtain⟨i3,a6,a7,a8,a9⟩:=info_parts (Tryz.info_int);have HL:=lh U;have HI:Hid (yDi g=pairsF g n 0 [] (List.replicate n 0)):=by rw [←U];rfl
 clear U;go_enter Tryz.func186,Tryz.ntmps186;have c9:=run_make_row (P:=Tryz.prog) 93 3 i3 (.int .i64 0) Tryz.underlying93 a6 a7 a8 rfl .i64 .i64 n (by rw [a9];omega) (by omega);go_wp2;clear c9;have b0:=JQ w (.int .i64 0) n 3;have b1:yG .i64 3 (w.alloc (.cells (madeCells #[.int .i64 0] n) 3)) w.heap.size (some ⟨w,0,none⟩) n (List.replicate n 0) :=
  yCj (b0.congr fun i hi=>by rw [rep_zero n i hi]) (by simp) (zT _) (by unfold maxLen;omega)
 have b2:=(Zc w.heap.size w).alloc (zT _) (.cells (madeCells #[.int .i64 0] n) 3);clear b0;go_loopw [4,13] (fun ov c D=>∃(i m:Nat) (b:List Nat) (f:List Int),i+m=n∧c=.int .i64 i∧D.ownsRow (w.heap.size+1) 3 1 ov b.length (yDc b) ∧
  f.length=n∧yG .i64 3 D w.heap.size (some ⟨w,0,none⟩) n f∧(∀p∈b,p<i)∧b.length≤i∧w.heap.size+1≤D.heap.size∧Below w w D∧pairsF g m i b f=yDi g) (fun _ c _=>n-(intOf c).toNat)
 case atStart=>exact⟨0,n,[],List.replicate n 0,by omega,rfl,Zx _ _ _ _,by simp,b1,by simp,by simp,by simp,b2,HI.out.symm⟩
 case round =>
  obtain⟨i,m,b,f,b3,rfl,V,b4,J,b5,e4,b6,K,hF⟩:=hrel;have x:=lh b3;have E:=lh hF;have X:=lh b4;have M:=lh b5;clear b3 hF b4 b5 b1 b2;obtain⟨oa,Y,d0,e5,e6⟩:=yP V;subst d0;by_cases hi:i<n
  ·obtain⟨m,rfl⟩:∃q,m=q+1:=⟨m-1,by have:=x.out;omega⟩;obtain⟨G,o,rfl,e7,Z⟩:=hd.at K i (by have:=HL.out;omega);obtain⟨G',d1,_,_,d2,d3,_,_⟩:=J.at i (by have:=X.out;omega);cases d1;have a0:∀d,lkn (yH g i)=d→pairsF g (m+1) i b f=if yBk d=true then pairsF g m (i+1) (b++[i]) (f.set i (-1)) else if d=10 then pairsF g m (i+1) [] (f.set i (-1))
    else if d=22∧0<b.length then pairsF g m (i+1) (b.take (b.length-1)) (((f.set i (-1)).set i (b.getD (b.length-1) 0)).set (b.getD (b.length-1) 0) i) else pairsF g m (i+1) b (f.set i (-1)):=fun d h=>by rw [pairsF,h]
   generalize yH g i=y at Z a0;obtain⟨d,a1⟩:=nm (lkn y);have r:=a0 d a1;have HD:Hid (∀W,Calls Tryz.prog 137 #[.int .i8 y] W fun e w'=>e=.returned (.int .i8 d)∧W=w'):=fun W=>by rw [←a1];exact yBw y W
   clear a0 a1;go_upto_region 7 with fail;obtain⟨s,z⟩:∃s,s=wr.setCell ⟨w.heap.size,i,none⟩ (.int .i64 (-1)):=⟨_,rfl⟩;rw [←z];have b7:yG .i64 3 s w.heap.size (some ⟨w,0,none⟩) n (f.set i (-1)):=(by rw [z];exact J.set i (-1));have b8:Below w w s:=(by rw [z];exact K.setCell (p:=⟨w.heap.size,i,none⟩) (zT _) (.int .i64 (-1)));have b9:s.ownsRow (w.heap.size+1) 3 1 (.slice oa b.length Y) b.length (yDc b):=by
    rw [z];exact ownsRow_setCell_below V (show (⟨w.heap.size,i,none⟩:Addr).block<w.heap.size+1 from Zn _) (.int .i64 (-1))
   have N:w.heap.size+1≤s.heap.size:=(by rw [z];simpa [World.setCell] using b6);have d4:s.cell? ⟨G,o+i,none⟩=some (.int .i8 y):=by
    rw [z];exact (JL (heap_setCell_other wr ⟨w.heap.size,i,none⟩ G (.int .i64 (-1)) (by show G≠w.heap.size;omega))).trans Z
   clear J K V b6 Z d2 d3 z;go_upto_region 8 with (go_at_call 137;refine (HD.out _).mono ?_;rintro e w' ⟨rfl,l⟩;subst l);have c0:(f.set i (-1)).length=n:=(by rw [ZQ];exact X.out);have A:=lh c0;have B:=lh b7;have F:=lh b8;have C:=lh b9;clear c0 b7 b8 b9 d4;by_cases O:yBk d=true
   ·have u:=lh (r.trans (Zg O));clear r;go_wp2_with (first | (go_at_call 179;refine (yr _ _).mono ?_;rintro e w' ⟨rfl,l⟩;subst l) | (at_builtin;refine wpList_append_own _ rfl (.tmp 27) (.tmp 29) 93 rfl (w.heap.size+1) 3 i3 (.int .i64 0) 1 8 Tryz.underlying93 a6 a7 a8 a9 rfl (by decide) (.slice oa b.length Y) b.length _ rfl (C.out.alloc _) ⟨s,0,none⟩ 1 1 [i] rfl rfl (JV _ _ _) (by simp [Value.oneCell']) (by unfold maxLen;omega) (by omega) (by simp;omega) ?_;intro v6 w6 d5 Q _));have d6:=lp_kept B.out Q (fun k hk=>by have:=(C.out.lt k hk).1;omega);have d7:=(F.out.alloc F.out.size _).grown Q (by simp;omega) (fun k hk=>by have:=(C.out.lt k hk).1;omega);have d8:w.heap.size+1≤w6.heap.size:=(by have:=Q.size;rw [zM] at this;omega);clear Q;go_roundw
    case rel=>exact⟨i+1,m,b++[i],f.set i (-1),by have:=x.out;omega,by go_num,by rw [nats_snoc,zJ,ZM];exact d5,A.out,d6,fun p v=>by
     rw [ZF,zO] at v;rcases v with v | v
     ·have:=M.out p v;omega
     ·omega,by rw [zJ,ZM];omega,d8,d7,by rw [←E.out,u.out]⟩
    case measure=>simp [intOf];omega
   ·rw [Zf O] at r;have e8:yBk d=false:=(by simpa using O);clear O;by_cases I:d=10
    ·have u:=lh (r.trans (Zg I));subst I;clear r;go_wp2_with (go_at_call 179;refine (yr _ _).mono ?_;rintro e w' ⟨rfl,l⟩;subst l);go_roundw
     case rel=>exact⟨i+1,m,[],f.set i (-1),by have:=x.out;omega,by go_num,Zx _ _ _ _,A.out,B.out,by simp,by simp,N,F.out,by rw [←E.out,u.out]⟩
     case measure=>simp [intOf];omega
    ·rw [Zf I] at r;have e9:(d==10)=false:=(by simpa using I);clear I;by_cases H:d=22∧0<b.length
     ·have u:=lh (r.trans (Zg H));obtain⟨rfl,d9⟩:=H;clear r;obtain⟨L,hL⟩:∃L,b.length=L+1:=⟨b.length-1,by omega⟩;obtain⟨GO,e0,f0,f1,c1⟩:=yB2 C.out d9;subst e0;obtain⟨j,R⟩:=nm (b.getD L 0);have a2:=c1 L (by omega);have c2:(yDc b)[L]? = some (.int .i64 (j:Int)):=by
       unfold yDc;rw [zm,zF (by omega),←R,zI,zF (by omega)];rfl
      rw [c2] at a2;have c3:j∈b:=(by rw [←R,zI,zF (by omega)];exact ZJ _);have f2:j<i:=M.out j c3;obtain⟨G1,a3,_,_,a4,c4,_,_⟩:=B.out.at i (by have:=A.out;omega);cases a3;obtain⟨G1,a3,_,_,a5,c5,_,_⟩:=B.out.at j (by have:=A.out;omega);cases a3;rw [hL,Ze,R] at u;have e1:=lh hL;clear c1 c2 c3 R;generalize yH (f.set i (-1)) i=vi at a4;generalize yH (f.set i (-1)) j=vj at a5;go_upto_region 13 with (go_at_call 179;refine (yr _ _).mono ?_;rintro e w' ⟨rfl,l⟩;subst l);go_cut [7] (fun t D=>t=.int .i64 L∧D=s)
      case first =>
       clear a4 a5 c4 c5 a2;go_wp2
       all_goals (go_meet;exact⟨by go_num,rfl⟩)
      case rest =>
       obtain⟨rfl,c6⟩:=hcut;have e2:=c6.symm;clear c6;subst e2;have f3:(0:Int)≤(L:Int):=(by omega);have f4:(L:Int)<(b.length:Int):=(by omega);have f5:(L:Int)<(L:Int)+1:=(by omega);have f6:(0:Int)≤(j:Int):=(by omega);have f7:(j:Int)<(n:Int):=(by omega);have f8:(0:Int)≤(i:Int):=(by omega);have f9:(i:Int)<(n:Int):=(by omega);have g0:GO≠w.heap.size:=(by omega);have g1:w.heap.size≠GO:=(by omega);have g2:i≠j:=(by omega);have g3:j≠i:=(by omega);have g4:(L:Int)≤(Y:Int):=(by omega);clear hL;go_upto_region 14 with fail
       go_region_held3 (fun w'=>w'.cell? ⟨GO,L,none⟩=some (.int .i64 j)) (go_keep) (fail)
       all_goals
        have S:=lh (lp_two B.out C.out F.out e1.out N i j);clear a4 a5 c4 c5 a2;go_wp2;go_roundw
        case rel=>exact⟨i+1,m,b.take L,((f.set i (-1)).set i (j:Int)).set j (i:Int),by have:=x.out;omega,by go_num,S.out.1,by rw [ZQ,ZQ];exact A.out,S.out.2.1,fun p v=>by have:=M.out p (JE v);omega,by rw [za];omega,S.out.2.2.1,S.out.2.2.2,by rw [←E.out,u.out]⟩
        case measure=>simp [intOf];omega
     ·have u:=lh (r.trans (Zf H));have c7:∀p∈b,p<i+1:=fun p v=>by have:=M.out p v;omega
      have c8:=lh c7;clear r c7;by_cases T:d=22
      ·have g5:¬ 0<b.length:=fun h=>H ⟨T,h⟩;subst T;clear H;go_wp2_with (go_at_call 179;refine (yr _ _).mono ?_;rintro e w' ⟨rfl,l⟩;subst l);go_roundw
       case rel=>exact⟨i+1,m,b,f.set i (-1),by have:=x.out;omega,by go_num,C.out,A.out,B.out,c8.out,by omega,N,F.out,by rw [←E.out,u.out]⟩
       case measure=>simp [intOf];omega
      ·have g6:(d==22)=false:=(by simpa using T);clear H T;go_wp2_with (go_at_call 179;refine (yr _ _).mono ?_;rintro e w' ⟨rfl,l⟩;subst l);go_roundw
       case rel=>exact⟨i+1,m,b,f.set i (-1),by have:=x.out;omega,by go_num,C.out,A.out,B.out,c8.out,by omega,N,F.out,by rw [←E.out,u.out]⟩
       case measure=>simp [intOf];omega
  ·have e3:m=0:=(by have:=x.out;omega);have HZ:Hid (f=yDi g):=(by subst e3;exact E);go_wp2;go_ret;exact⟨rfl,by rw [←HZ.out];exact X.out,by rw [←HZ.out];exact J,K⟩
end
section
open Go.RowKit
theorem st_field0 (x y z:Value) (w:World):Sem.run Tryz.prog (Instr.field 253 (.agg #[x,y,z]) 0) w=.ok x w:=by kernel_rfl
theorem st_field1 (x y z:Value) (w:World):Sem.run Tryz.prog (Instr.field 253 (.agg #[x,y,z]) 1) w=.ok y w:=by kernel_rfl
theorem st_field2 (x y z:Value) (w:World):Sem.run Tryz.prog (Instr.field 253 (.agg #[x,y,z]) 2) w=.ok z w:=by kernel_rfl
def stV (s:LSt):Value:=.agg #[.int .u8 s.level,.int .i8 s.over,s.iso]
theorem yG8 (w:World) (base p R:Nat) (P:LPile) (h:yw w base p R P) (f:0<P.states.length) :
 Calls Tryz.prog 180 #[.pointer (some ⟨p,0,none⟩)] w fun e w'=>e=.returned (stV P.top)∧Below w w w':=by
 obtain⟨N,cap,a,b,o,q,r,g,i,j⟩:=h;obtain⟨L,c⟩:∃L,P.states.length=L+1:=⟨P.states.length-1,by omega⟩;obtain⟨k,l,m⟩:=pile_top b c;have t:=b.lt;obtain⟨n,d⟩:=nm (P.states.length);rw [d] at a g;obtain⟨u,_,_,_,_,v⟩:=yBs a;unfold maxLen at i;have x:(0:Int)≤(L:Int):=by omega
 have y:(L:Int)<(n:Int):=by omega
 have z:(n:Int)≤(cap:Int):=by omega
 have A:IntKind.i64.wrap ((n:Int)-1)=(L:Int):=by rw [ZH];omega
 unfold stV;generalize P.top=s at k l m ⊢;clear b a c f j d;go_enter Tryz.func180,Tryz.ntmps180;go_upto_region 1 with fail
 go_region_held3 (fun w'=>w'.cell? ⟨p,0,none⟩=some (.slice (some ⟨R,0,none⟩) n cap)∧w'.cell? ⟨R,L*3,none⟩=some (.int .u8 s.level)∧w'.cell? ⟨R,L*3+1,none⟩=some (.int .i8 s.over)∧w'.cell? ⟨R,L*3+2,none⟩=some (.bool s.iso)) (go_keep) (fail)
 go_wp2;refine qC (JT rfl _ _ w.heap.size _ _ _ _ rfl (JS w _) Tryz.underlying253 rfl (by kernel_rfl)) rfl ⟨rfl,?_⟩;exact ((Zc w.heap.size w).alloc (zT _) _).drew
theorem said_any (w:World) (base p R:Nat) (P:LPile) (d:Int) (h:yw w base p R P) (g:0<P.states.length) :
 Calls Tryz.prog 181 #[.pointer (some ⟨p,0,none⟩),.int .i8 d] w fun e w'=>e=.returned (.int .i8 (P.said d))∧Below w w w':=by
 have a:=yG8 w base p R P h g;have c:P.said d=if P.top.over ≠ -1 then P.top.over else d:=rfl;unfold stV at a;generalize P.top=s at a c;obtain⟨l,o,b⟩:=s;simp only at a c;have i:=lh c;have k:=lh a;have m:=st_field1 (.int .u8 l) (.int .i8 o) (.bool b);clear c h g a;go_enter Tryz.func181,Tryz.ntmps181;go_upto_region 1 with fail;go_upto_region 2 with (go_at_call 180;refine k.out.mono ?_;rintro e w1 ⟨rfl,j⟩);by_cases f:o = -1
 ·subst f;go_wp2;go_ret;exact⟨yK (by rw [i.out];rfl),j⟩
 ·have n:(o != -1)=true:=(by simpa using f);go_wp2;go_ret;exact⟨yK (by rw [i.out,Zg f]),j⟩
theorem pop_any (w:World) (base p R:Nat) (P:LPile) (h:yw w base p R P) (j:1<P.states.length) :
 Calls Tryz.prog 210 #[.pointer (some ⟨p,0,none⟩)] w fun e w'=>e=.returned (.tuple #[])∧yw w' base p R P.pop∧Keep2 p R w w':=by
 obtain⟨N,cap,a,b,k,l,d,m,o,r⟩:=h;obtain⟨L,c⟩:∃L,P.states.length=L+1:=⟨P.states.length-1,by omega⟩;have t:=b.lt;have f:∀q,yw ((w.setCell ⟨p,0,none⟩ (.slice (some ⟨R,0,none⟩) L L)).drewN q) base p R P.pop∧Keep2 p R w ((w.setCell ⟨p,0,none⟩ (.slice (some ⟨R,0,none⟩) L L)).drewN q):=fun q=>by
  refine⟨⟨N,L,?_,?_,k,l,d,?_,by unfold maxLen at *;omega,by omega⟩,((Keep2.refl p R w).set 0 _).drewN q⟩
  ·have:=pile_set0 (v:=.slice (some ⟨R,0,none⟩) L L) a;rw [P.pop_len,c,Ze];exact this
  ·have:=(yAr (i:=0) (v:=.slice (some ⟨R,0,none⟩) L L) b d).take (L*3);rw [←flat_take P.states yFx 3 (fun _=>rfl)] at this;unfold LPile.pop;rw [c,Ze];exact this
  ·rw [P.pop_len];omega
 have s:=lh f;obtain⟨n,g⟩:=nm (P.states.length);rw [g] at a m;obtain⟨u,_,_,_,fr,x⟩:=yBs a;have y:=fr 0;unfold maxLen at o;have z:(0:Int)≤(L:Int):=by omega
 have A:(L:Int)<(n:Int):=by omega
 have B:(L:Int)≤(cap:Int):=by omega
 have C:(n:Int)≤(cap:Int):=by omega
 have D:IntKind.i64.wrap ((n:Int)-1)=(L:Int):=by rw [ZH];omega
 clear b a c j r g f;go_enter Tryz.func210,Tryz.ntmps210;go_wp2
 go_region
 all_goals go_end0
 all_goals exact⟨rfl,s.out _⟩
end
section
open Go.RowKit
theorem Tryz.info_state:(Tryz.prog.info? 253).map (fun i=>(i.zero,i.size,i.bytes))=some (some (.agg #[.int .u8 0,.int .i8 0,false]),3,3):=by kernel_rfl
theorem bits_even (l:Nat) (h:l≤125):bits .andNot .u8 ((l:Int)+2) 1=(((l+2) / 2*2:Nat):Int):=by
 have:∀k:Fin 126,bits .andNot .u8 (((k:Nat):Int)+2) 1=((((k:Nat)+2) / 2*2:Nat):Int):=by decide
 exact this ⟨l,by omega⟩
theorem bits_odd (l:Nat) (h:l≤125):bits .or .u8 ((l:Int)+1) 1=(((l+1) / 2*2+1:Nat):Int):=by
 have:∀k:Fin 126,bits .or .u8 (((k:Nat):Int)+1) 1=((((k:Nat)+1) / 2*2+1:Nat):Int):=by decide
 exact this ⟨l,by omega⟩
def yEg (w:World) (base p R:Nat) (P:LPile) (v:Value) (e:Ending) (w':World):Prop :=
 e=.returned v∧∃R',yw w' base p R' P∧(R'=R∨w.heap.size≤R')∧Keep2 p R w w'
theorem lay_any (w:World) (base p R:Nat) (P:LPile) (a:Bool) (c:Int) (d:Bool) (h:yw w base p R P) (a4:0<P.states.length) (r:P.top.level≤125) (c4:P.states.length≤2097153) :
 Calls Tryz.prog 183 #[.pointer (some ⟨p,0,none⟩),a,.int .i8 c,d] w (yEg w base p R (P.lay a c d) (.bool (P.room a))):=by
 obtain⟨i3,a5,a6,a7,a8⟩:=info_parts (Tryz.info_state);have B:=fun W (hb:Below w w W)=>yG8 W base p R P (h.keep hb) a4;obtain⟨n,C⟩:=nm (P.next a);have O:n=if a=true then (P.top.level+1) / 2*2+1 else (P.top.level+2) / 2*2:=by rw [←C];rfl
 unfold stV at B;have Q:=lh h;have D:=lh B;have u:=lh O;have S:=lh C;clear B h O C;generalize P.top=s at D u r;obtain⟨l,o,b⟩:=s;simp only at r u;have c5:=st_field0 (.int .u8 l) (.int .i8 o) (.bool b);go_enter Tryz.func183,Tryz.ntmps183;go_upto_region 2 with (go_at_call 180;refine (D.out w (Zc _ _)).mono ?_;rintro e w1 ⟨rfl,x⟩);go_upto_if 15 with fail;go_cut [9] (fun t wx=>t=.int .u8 n∧Below w w wx)
 case first =>
  have e1:=bits_even l r;have e2:=bits_odd l r;cases a with
  | true =>
    go_upto_region 3 with fail;go_wp2_with (go_at_call 180;refine (D.out w1 x).mono ?_;rintro e w2 ⟨rfl,a9⟩);go_meet;have T:(n:Int)=((l:Int)+1) / 2*2+1:=(by rw [u.out,Zg trivial];omega);exact⟨by rw [T],x.trans (a9.mono x.size)⟩
  | false =>
    go_wp2;go_meet;have T:(n:Int)=((l:Int)+2) / 2*2:=(by rw [u.out,Zf (by simp)];omega);exact⟨Zb (Value.int .u8) (by rw [e1];omega),x⟩
 case rest =>
  obtain⟨rfl,j⟩:=hcut;obtain⟨N,cap,y,E,b0,b1,b2,c6,b3,b4⟩:=Q.out.keep j;have HK:Hid (yw wc base p R P):=Q.out.keep j;obtain⟨c0,c1,U,c3,fr,b5⟩:=yBs y;have f0:=fr 0;have V:P.room a=(decide (n≤125)&&decide (P.deep=0)&&decide (P.emb=0)):=(by unfold LPile.room;rw [S.out]);have X:P.lay a c d=if P.room a=true then { P with states:=P.states++[⟨n,c,d⟩] } else P:=by unfold LPile.lay;rw [S.out]
  have Y:=lh V;have Z:=lh X;clear V X;by_cases m:n≤125∧P.deep=0∧P.emb=0
  ·obtain⟨b6,F,G⟩:=m;have a0:P.room a=true:=(by rw [Y.out];simp [b6,F,G]);rw [F] at U;rw [G] at c3;have c7:¬ (125:Int)<(n:Int):=(by omega);have a1:=lh a0;have b7:=lh y;have a2:=lh E;clear a0 F G y E;go_upto_region 6 with fail;go_wp2_with (at_builtin;refine yKh _ rfl _ _ 255 rfl 253 i3 _ 3 3 Tryz.underlying255 a5 a6 a7 a8 rfl (by decide) R N P.states.length cap (P.states.flatMap yFx) rfl (a2.out.kept (qA _ _ _ a2.out.lt)) (flat_len _ yFx 3 (fun _=>rfl)) b4 b3 ⟨wc,0,none⟩ 1 1 (yFx ⟨n,c,d⟩) rfl rfl (World.news_of_block (cs:=(yFx ⟨n,c,d⟩).toArray) (t:=253) (fr:=(0,0)) (JS _ _)) (by simp [yFx,Value.oneCell']) (by omega) (by unfold maxLen;omega) (by omega) ?_;intro w3 z N' H f g i h4 A I;have J:=(I.block p (by rw [zM];omega) (by simp;omega)).trans ((qA _ _ _ b5).trans b7.out);obtain⟨x0,_,_,_,xf,_⟩:=yBs J;have c8:=xf 0;have H3:=lh J;have H1:=lh f;have H6:=lh I;clear J f I);go_ret;have K:base≤z∧z≠p:=by
    rw [zM] at A;rcases A with e | e
    ·rw [e];exact⟨b1,b2⟩
    ·omega
   have b8:({ P with states:=P.states++[⟨n,c,d⟩] }:LPile).states.flatMap yFx=P.states.flatMap yFx++yFx ⟨n,c,d⟩:=by
    show (P.states++[(⟨n,c,d⟩:LSt)]).flatMap yFx=_;rw [zU,zV]
   refine⟨by rw [a1.out];rfl,z,?_,?_,?_⟩
   ·rw [Z.out,Zg a1.out];refine⟨N',H,?_,?_,b0,K.1,K.2,?_,i,h4⟩
    ·have:=pile_set0 (v:=.slice (some ⟨z,0,none⟩) (P.states.length+1) H) H3.out;simpa using this
    ·rw [b8];exact yAr H1.out K.2
    ·show (P.states++[(⟨n,c,d⟩:LSt)]).length≤H;rw [zJ,ZM];exact g
   ·rw [zM] at A;have:=j.size;rcases A with e | e
    ·exact .inl e
    ·right;omega
   ·exact (((Keep2.of j).alloc _).grown H6.out (fun k hk=>.inr (.inl (by cases hk;rfl)))).set 0 _
  ·have L:P.room a=false:=by
    rw [Y.out];by_cases f:n≤125
    ·by_cases g:P.deep=0
     ·have i:¬ P.emb=0:=fun i=>m ⟨f,g,i⟩;simp [i]
     ·simp [g]
    ·simp [f]
   have a3:∀q,yEg w base p R (P.lay a c d) (.bool (P.room a)) (.returned (.bool false)) (wc.drewN q):=fun q =>
    ⟨by rw [L],R,by rw [Z.out,Zf (by rw [L];decide)];exact HK.out.keep (yI (Zc _ _) q),.inl rfl,Keep2.of (yI j q)⟩
   have M:=lh a3;clear a3 L y E;by_cases f:n≤125
   ·have b9:¬ (125:Int)<(n:Int):=(by omega);by_cases g:P.deep=0
    ·have i:0<P.emb:=(by omega);rw [g] at U;clear m;go_wp2;go_ret;exact M.out 0
    ·have c9:0<P.deep:=(by omega);clear m;go_wp2;go_ret;exact M.out 0
   ·have b9:(125:Int)<(n:Int):=(by omega);clear m;go_wp2;go_ret;exact M.out 0
end
section
open Go.RowKit
theorem embed_any (w:World) (base p R:Nat) (P:LPile) (d:Int) (h:yw w base p R P) (x:0<P.states.length) (y:P.top.level≤125) (z:P.states.length≤2097153) (W:P.emb≤2097152)
 (J:d=14∨d=15∨d=16∨d=17) :
 Calls Tryz.prog 182 #[.pointer (some ⟨p,0,none⟩),.int .i8 d] w (yEg w base p R (P.embed d) (.tuple #[])):=by
 obtain⟨c,m⟩:∃c,c=(decide (d=15)||decide (d=17)):=⟨_,rfl⟩;obtain⟨f,n⟩:∃f:Int,f=if d=16 then 0 else if d=17 then 1 else -1:=⟨_,rfl⟩;have A:P.embed d=if P.room c=true then P.lay c f false else if P.deep=0 then { P with emb:=P.emb+1 } else P:=by rw [m,n];rfl
 have o:=lay_any w base p R P c f false h x y z;have B:P.room c≠true→P.lay c f false=P:=fun b=>by unfold LPile.lay;rw [Zf b]
 have j:=lh A;have k:=lh B;clear A B h x y z;obtain⟨i,C⟩:=nm (P.room c);rw [C] at j k o;have D:∀w1,(∃a,yw w1 base p a (P.lay c f false)∧(a=R∨w.heap.size≤a)∧Keep2 p R w w1)→i=true→yEg w base p R (P.embed d) (.tuple #[]) (.returned (.tuple #[])) w1:=fun w1 ⟨a,k1,k2,k3⟩ b =>
  ⟨rfl,a,by rw [j.out,Zg b];exact k1,k2,k3⟩
 have E:∀w1,(∃a,yw w1 base p a (P.lay c f false)∧(a=R∨w.heap.size≤a)∧Keep2 p R w w1)→i=false→¬ P.deep=0→yEg w base p R (P.embed d) (.tuple #[]) (.returned (.tuple #[])) w1:=fun w1 ⟨a,k1,k2,k3⟩ b h0=>by
  have q:=k.out (by rw [b];decide);rw [q] at k1;exact⟨rfl,a,by rw [j.out,Zf (by rw [b];decide),Zf h0];exact k1,k2,k3⟩
 have F:∀w1,(∃a,yw w1 base p a (P.lay c f false)∧(a=R∨w.heap.size≤a)∧Keep2 p R w w1)→i=false→P.deep=0→yEg w base p R (P.embed d) (.tuple #[]) (.returned (.tuple #[])) (w1.setCell ⟨p,3,none⟩ (.int .i64 ((P.emb:Int)+1))):=fun w1 ⟨a,k1,k2,k3⟩ b h0=>by
  have q:=k.out (by rw [b];decide);rw [q] at k1;obtain⟨N,cap,r,L,M,O,G,Q⟩:=k1;exact⟨rfl,a,by rw [j.out,Zf (by rw [b];decide),Zg h0];exact⟨N,cap,by simpa using yM4 (v:=.int .i64 ((P.emb:Int)+1)) r,yAr L G,M,O,G,Q⟩,k2,k3.set 3 _⟩
 have H:∀w1,(∃a,yw w1 base p a (P.lay c f false)∧(a=R∨w.heap.size≤a)∧Keep2 p R w w1)→i=false→w1.cell? ⟨p,2,none⟩=some (.int .i64 P.deep)∧w1.cell? ⟨p,3,none⟩=some (.int .i64 P.emb)∧w1.frozen? ⟨p,3,none⟩=false:=fun w1 ⟨a,k1,k2,k3⟩ b=>by
  rw [k.out (by rw [b];decide)] at k1;obtain⟨N,cap,r,_⟩:=k1;obtain⟨_,_,l,s,fr,_⟩:=yBs r;exact⟨l,s,fr 3⟩
 have K:=lh D;have S:=lh E;have T:=lh F;have I:=lh H;have t:=lh o;clear D E F H o C;rcases J with rfl | rfl | rfl | rfl
 all_goals
  simp only [decide_true,Bool.or_true,Bool.true_or,Int.reduceEq,decide_false,Bool.or_false,if_true,if_false] at m n;subst m n;go_enter Tryz.func182,Tryz.ntmps182;go_upto_region 6 with fail;by_cases b:i=true
  ·subst b;go_wp2_with (go_at_call 183;refine t.out.mono ?_;rintro e w1 ⟨rfl,g⟩)
   go_end0
   exact K.out w1 g (by first | rfl | trivial)
  ·have U:i=false:=(by simpa using b);subst U;clear b;by_cases h0:P.deep=0
   ·go_wp2_with (go_at_call 183;refine t.out.mono ?_;rintro e w1 ⟨rfl,g⟩;obtain⟨l,s,V⟩:=I.out w1 g rfl;rw [h0] at l;have u:=lh g;clear g)
    go_end0
    exact T.out w1 u.out (by first | rfl | trivial) h0
   ·have X:0<P.deep:=(by omega);have Y:((P.deep:Int)==0)=false:=(by simpa using h0);go_wp2_with (go_at_call 183;refine t.out.mono ?_;rintro e w1 ⟨rfl,g⟩;obtain⟨l,s,V⟩:=I.out w1 g rfl;have u:=lh g;clear g)
    go_end0
    exact S.out w1 u.out (by first | rfl | trivial) h0
theorem fin_any (w:World) (base p R:Nat) (P:LPile) (h:yw w base p R P) (x:0<P.states.length) (G:P.states.length≤2097153) (I:P.emb≤2097152) :
 Calls Tryz.prog 185 #[.pointer (some ⟨p,0,none⟩)] w (yEg w base p R P.fin (.tuple #[])):=by
 have H:=lh h;have j:=yG8 w base p R P h x;have q:=fun (a:1<P.states.length) W (g:Below w w W)=>pop_any W base p R P (h.keep g) a;obtain⟨N,cap,k,r,y,z,t,A⟩:=h;obtain⟨J,K,L,M,fr,O⟩:=yBs k;have Q:=fr 3;unfold stV at j;have m:=lh j;have B:=lh q;have C:=lh k;have D:=lh r;clear j k r q;have u:P.fin=if 0<P.deep then P else if 0<P.emb then { P with emb:=P.emb-1 } else if 1<P.states.length∧P.top.iso=false then P.pop else P:=rfl;have c:=lh u;clear u;have same:∀w1,Below w w w1→yw w1 base p R P∧Keep2 p R w w1:=fun w1 g=>⟨H.out.keep g,Keep2.of g⟩;have d:=lh same;clear same;go_enter Tryz.func185,Tryz.ntmps185;by_cases a:0<P.deep
 ·go_wp2
  go_end0
  exact⟨rfl,R,by rw [c.out,Zg a];exact (d.out _ (Zc _ _)).1,.inl rfl,(d.out _ (Zc _ _)).2⟩
 ·by_cases i:0<P.emb
  ·go_wp2
   go_end0
   refine⟨rfl,R,?_,.inl rfl,(Keep2.refl p R w).set 3 _⟩;rw [c.out,Zf a,Zg i];refine⟨N,cap,?_,yAr D.out t,y,z,t,A⟩;have:=yM4 (v:=.int .i64 ((P.emb-1:Nat):Int)) C.out;rw [show (((P.emb-1:Nat):Int))=(P.emb:Int)-1 by omega] at this;simp only;rw [show (((P.emb-1:Nat):Int))=(P.emb:Int)-1 by omega];exact this
  ·generalize P.top=s at m c;obtain⟨l,o,b⟩:=s;simp only at c;have S:=st_field2 (.int .u8 l) (.int .i8 o) (.bool b);by_cases n:1<P.states.length
   ·cases b with
    | true =>
      go_wp2_with (go_at_call 180;refine m.out.mono ?_;rintro e w1 ⟨rfl,f⟩)
      go_end0
      exact⟨rfl,R,by rw [c.out,Zf a,Zf i,Zf (by simp)];exact (d.out _ f).1,.inl rfl,(d.out _ f).2⟩
    | false =>
      go_wp2_with (first | (go_at_call 180;refine m.out.mono ?_;rintro e w1 ⟨rfl,f⟩) | (go_at_call 210;refine (B.out n _ f).mono ?_;rintro e T ⟨rfl,E,F⟩))
      go_end0
      exact⟨rfl,R,by rw [c.out,Zf a,Zf i,Zg ⟨n,by first | rfl | trivial⟩];exact E,.inl rfl,(Keep2.of f).trans F (.inl rfl)⟩
   ·go_wp2
    go_end0
    exact⟨rfl,R,by rw [c.out,Zf a,Zf i,Zf (fun e=>n e.1)];exact (d.out _ (Zc _ _)).1,.inl rfl,(d.out _ (Zc _ _)).2⟩
structure PopRel (w:World) (base p R:Nat) (P0:LPile) (P:LPile) (wx:World):Prop where
 at_:yw wx base p R P
 keep:Keep2 p R w wx
 bot:(P.last 0).iso=false
 ne:0<P.states.length
 cnt:P.states.countP (·.iso)=P0.states.countP (·.iso)
 pop:LPile.popTo P.states.length P=LPile.popTo P0.states.length P0
 len:P.states.length≤P0.states.length
 opn:P.opn=P0.opn
theorem close_any (w:World) (base p R:Nat) (P:LPile) (i:Nat) (h:yw w base p R P) (j:P.Ok i) (hi:i≤2097152) :
 Calls Tryz.prog 184 #[.pointer (some ⟨p,0,none⟩)] w (yEg w base p R P.close (.tuple #[])):=by
 have H:=lh h;have F:P.close=if 0<P.deep then { P with deep:=P.deep-1 } else if 0<P.opn then { ((LPile.popTo P.states.length { P with emb:=0 }).pop) with opn:=P.opn-1 } else P:=rfl;have u:=lh F;have x:=lh j;have b1:=j.deep;have b2:=j.opn;obtain⟨N,cap,y,G,I,J,k,K⟩:=h;obtain⟨c0,c1,c2,c3,fr,b3⟩:=yBs y;have f1:=fr 1;have f2:=fr 2;have f3:=fr 3;have L:=lh y;have M:=lh G;clear y G F j;go_enter Tryz.func184,Tryz.ntmps184;by_cases z:0<P.deep
 ·go_wp2
  go_end0
  refine⟨rfl,R,?_,.inl rfl,(Keep2.refl p R w).set 2 _⟩;rw [u.out,Zg z];refine⟨N,cap,?_,yAr M.out k,I,J,k,K⟩;have:=pile_set2 (v:=.int .i64 ((P.deep:Int)-1)) L.out;simp only;rw [show (((P.deep-1:Nat):Int))=(P.deep:Int)-1 by omega];exact this
 ·by_cases A:0<P.opn
  ·obtain⟨c,f⟩:∃c:LPile,c={ P with emb:=0 }:=⟨_,rfl⟩;have n:c.states=P.states:=(by rw [f]);have O:yw (w.setCell ⟨p,3,none⟩ (.int .i64 0)) base p R c:=by
    rw [f];exact⟨N,cap,yM4 L.out,yAr M.out k,I,J,k,K⟩
   have Q:PopRel w base p R c c (w.setCell ⟨p,3,none⟩ (.int .i64 0)) :=
    ⟨O,(Keep2.refl p R w).set 3 _,by unfold LPile.last;rw [n];exact x.out.bot,by rw [n];exact x.out.ne,rfl,rfl,zT _,rfl⟩
   have a0:0<c.states.countP (·.iso):=(by rw [n,x.out.cnt];exact A);have S:P.close={ ((LPile.popTo c.states.length c).pop) with opn:=P.opn-1 }:=(by rw [u.out,Zf z,Zg A,f]);have T:c.opn=P.opn:=(by rw [f]);have a2:=lh Q;have a3:=lh S;have a4:=lh T;clear Q S O n T f;go_upto_block 1 with fail;go_wp2
   go_loopg [24] c.states.length (fun gg _ wx=>∃a,PopRel w base p R c a wx∧a.states.length≤gg)
   case atStart=>exact⟨c,a2.out,zT _⟩
   case round =>
    obtain⟨a,rel,b4⟩:=hrel;have a5:=LPile.two rel.ne rel.bot (by rw [rel.cnt];exact a0);have q:=yG8 wr base p R a rel.at_ rel.ne;have U:=fun W (hb:Below wr wr W)=>pop_any W base p R a (rel.at_.keep hb) a5;have V:=a.pop_cnt rel.ne;unfold stV at q;have d:=lh rel;have X:=lh U;obtain⟨s,B⟩:=nm (a.top);rw [B] at q V;have Y:=lh B;obtain⟨l,o,b⟩:=s;have b5:=st_field2 (.int .u8 l) (.int .i8 o) (.bool b);clear rel B U;cases b with
    | true =>
      have eo:a.pop.opn=P.opn:=d.out.opn.trans a4.out;go_wp2_with (first | (go_at_call 180;refine q.mono ?_;rintro e w1 ⟨rfl,g⟩) | (go_at_call 210;refine (X.out _ g).mono ?_;rintro e w2 ⟨rfl,t,C⟩;have b6:=lh t;obtain⟨N2,a6,D,Z,q1,q2,q3,q4⟩:=t;obtain⟨_,d1,_,_,a7,_⟩:=yBs D;have g1:=a7 1;rw [eo] at d1;have a8:=lh D;have a9:=lh Z;clear D Z))
      go_end0
      have b0:LPile.popTo c.states.length c=a:=by
       rw [←d.out.pop];obtain⟨m,E⟩:∃m,a.states.length=m+1:=⟨a.states.length-1,by have:=d.out.ne;omega⟩;rw [E,LPile.popTo,Zg (by rw [Y.out])]
      refine⟨rfl,R,?_,.inl rfl,((d.out.keep.trans (Keep2.of g) (.inl rfl)).trans C (.inl rfl)).set 1 _⟩;rw [a3.out,b0];refine⟨N2,a6,?_,yAr a9.out q3,q1,q2,q3,q4⟩;have:=pile_set1 (v:=.int .i64 ((P.opn:Int)-1)) a8.out;simp only;rw [show (((P.opn-1:Nat):Int))=(P.opn:Int)-1 by omega];exact this
    | false =>
      go_wp2_with (first | (go_at_call 180;refine q.mono ?_;rintro e w1 ⟨rfl,g⟩) | (go_at_call 210;refine (X.out _ g).mono ?_;rintro e w2 ⟨rfl,t,C⟩))
      go_roundg (a.states.length-1)
      case measure=>have:=d.out.ne;omega
      case rel =>
       have r:=d.out;have hl:=a.pop_len;refine⟨a.pop,⟨t,(r.keep.trans (Keep2.of g) (.inl rfl)).trans C (.inl rfl),by rw [a.pop_last 0 (by omega)];exact r.bot,by omega,?_,?_,by have:=r.len;omega,r.opn⟩,by omega⟩
       ·rw [←r.cnt];simpa using V.symm
       ·rw [←r.pop];obtain⟨m,E⟩:∃m,a.states.length=m+1:=⟨a.states.length-1,by have:=r.ne;omega⟩;rw [hl,E,Ze]
        conv=>rhs;rw [LPile.popTo,Zf (by rw [Y.out];simp)]
  ·go_wp2
   go_end0
   exact⟨rfl,R,by rw [u.out,Zf z,Zf A];exact H.out,.inl rfl,Keep2.refl p R w⟩
end
end Go.Proofs.YtncplikdjcmoeaaGreatDoor
