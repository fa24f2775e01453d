/- Lemmas, part 19: no further condition than each states. -/
import Derived.Test.YtncplikdjcmoeaaGreatDoorQ16
namespace Go.Proofs.YtncplikdjcmoeaaGreatDoor
set_option linter.unusedVariables false
set_option linter.unusedSimpArgs false
set_option maxRecDepth 100000
set_option maxHeartbeats 4000000
section
def BndP (L:List (Nat × ByteArray)) (z k:Nat):Prop:=(∃x∈L,x.1=k)∨k=z
def isF (n at':Int):List (Nat × ByteArray)→Bool
 | []=>decide (at'=n)
 | p::t=>if at'≤(p.1:Int) then decide ((p.1:Int)=at') else isF n at' t
def isI (s:ByteArray) (at':Int):Bool:=isF s.size at' (yF s)
theorem isF_bnd (z k:Nat):∀(L:List (Nat × ByteArray)) (a:Nat),yD2 a L z→a≤k→BndP L z k→isF z k L=true
 | [],a,h,h1,hb=>by
   rw [isF];rcases hb with ⟨x,b,_⟩ | e
   ·cases b
   ·exact zQ (by omega)
 | p::t,a,⟨h3,h4⟩,h1,hb=>by
   rw [isF];by_cases c:(k:Int)≤(p.1:Int)
   ·rw [Zg c];exact zQ (by omega)
   ·rw [Zf c];have f:=yPj t _ z h4;have d:BndP t z k:=by
     rcases hb with ⟨x,b,e⟩ | e
     ·rcases zX.1 b with rfl | b
      ·omega
      ·exact .inl ⟨x,b,e⟩
     ·exact .inr e
    refine isF_bnd z k t _ h4 ?_ d;rcases d with ⟨x,b,e⟩ | e
    ·have:=f.2 x b;omega
    ·omega
theorem isI_bnd (s:ByteArray) (k:Nat) (h:BndP (yF s) s.size k):isI s k=true:=isF_bnd s.size k _ 0 (yF1 s) (zd _) h
def yHu (L:List (Nat × ByteArray)):Nat:=(L.getLast?.map (·.2.size)).getD 0
theorem yP9 (L:List (Nat × ByteArray)) (p:Nat × ByteArray):yHu (L++[p])=p.2.size:=by simp [yHu]
def yFf (s:ByteArray):Nat:=yHu (yF s)
def prvI (T:ByteArray) (c:Int):Nat:=ctI T c-yFf (T.extract 0 (ctI T c))
theorem yRa {s:ByteArray} {b k:Nat} (h:yQ s b k):BndP (yF s) s.size b:=by
 obtain⟨d,pre,a,e⟩:=h;by_cases c:b<s.size
 ·rw [yL s b c] at a;exact .inl ⟨(b,s.extract b (b+nextI (s.extract b s.size))),by rw [a];simp,rfl⟩
 ·exact .inr (by omega)
theorem bord_pieces {T:ByteArray} {a k:Nat} (h:yQ T a k):yF (T.extract 0 a)=(yF T).take k:=by
 obtain⟨c,pre,b,d⟩:=h;have e:∀p∈pre,p.1<a:=fun p f=>by
  have:=(yBj T pre 0 a (zd _) c b).2.1 p f;omega
 have g:(T.extract 0 a).size=a:=by rw [yCh T 0 a (zd _) c];omega
 have:=yH8 T a c a 0 pre (zd _) (by omega) b e;unfold yF at b ⊢;rw [g,this,b,←d,List.take_left]
theorem yL6 {T:ByteArray} {a k:Nat} (h:yQ T a k):yFf (T.extract 0 a)≤a∧(∃m,yQ T (a-yFf (T.extract 0 a)) m)∧(a-yFf (T.extract 0 a)=a→a=0) ∧
 (a-yFf (T.extract 0 a)≠a→a-yFf (T.extract 0 a)+nextI (T.extract (a-yFf (T.extract 0 a)) T.size)=a):=by
 unfold yFf;rw [bord_pieces h];cases k with
 | zero =>
   have h0:a=0:=by
    have j:(yF T).take 0=[]:=rfl;obtain⟨c,pre,d,f⟩:=h;have:pre=[]:=qL f;subst this;have:=(yBj T [] 0 a (zd _) c d).2.2 rfl;omega
   subst h0;exact⟨by simp [yHu],⟨0,by simpa [yHu] using h⟩,fun _=>rfl,fun h=>by simp [yHu] at h⟩
 | succ m =>
   obtain⟨p,b,l⟩:=h.last;have n:=(zG.1 b).1;have g:yHu ((yF T).take (m+1))=p.2.size:=by
    have:(yF T).take (m+1)=(yF T).take m++[p]:=by
     rw [qS,b];rfl
    rw [this,yP9]
   rw [g];obtain⟨i,o,q⟩:=yH9 b;have r:=yY (T.extract p.1 T.size) (by rw [yJ T p.1 (by omega)];omega);have e:a-p.2.size=p.1:=(by omega);rw [e];exact⟨by omega,⟨m,i⟩,fun h=>by omega,fun _=>by omega⟩
theorem there_plain (T:ByteArray) (c:Int) :
 isI T (nxtI T c)=true∧isI T (prvI T c)=true∧isI T (ctI T c)=true∧ctI T c≤nxtI T c∧prvI T c≤ctI T c∧nxtI T c≤T.size∧(nxtI T c=ctI T c→nxtI T c=T.size)∧(prvI T c=ctI T c→prvI T c=0) ∧
  (nxtI T c≠ctI T c→prvI T (nxtI T c:Nat)=ctI T c)∧(prvI T c≠ctI T c→nxtI T (prvI T c:Nat)=ctI T c):=by
 obtain⟨k,b⟩:=yOc T c;obtain⟨a,n⟩:=nm (ctI T c);unfold nxtI prvI;rw [n] at b ⊢;have f:=b.1;obtain⟨y,⟨m,i⟩,o,p⟩:=yL6 b;have hI:isI T (a:Int)=true:=isI_bnd T a (yRa b);have r:isI T ((a-yFf (T.extract 0 a):Nat):Int)=true:=isI_bnd T _ (yRa i);have s:∃q,yQ T (a+nextI (T.extract a T.size)) q∧(nextI (T.extract a T.size)=0→a=T.size):=by
  by_cases j:a<T.size
  ·refine⟨_,b.next j,fun h=>?_⟩;have z:=yY (T.extract a T.size) (by rw [yJ T a (by omega)];omega);omega
  ·have e:a=T.size:=(by omega);have h0:nextI (T.extract a T.size)=0:=by
    have:(T.extract a T.size).size=0:=(by rw [yCh T a _ f (zT _)];omega);unfold nextI;rw [Zg this]
   rw [h0];exact⟨k,b,fun _=>e⟩
 obtain⟨q,d,t⟩:=s;refine⟨isI_bnd T _ (yRa d),r,hI,by omega,by omega,d.1,fun h=>?_,fun h=>?_,fun h=>?_,fun h=>?_⟩
 ·have:=t (by omega);omega
 ·have:=o h;omega
 ·rw [ct_bord d];obtain⟨A,⟨B,l⟩,u,v⟩:=yL6 d;have j:a<T.size:=by
   by_cases e:a<T.size
   ·exact e
   ·have:(T.extract a T.size).size=0:=(by rw [yCh T a _ f (zT _)];omega);have:nextI (T.extract a T.size)=0:=(by unfold nextI;rw [Zg this]);omega
  have g:=v (fun e=>by have:=u e;omega);by_cases w:a+nextI (T.extract a T.size)-yFf (T.extract 0 (a+nextI (T.extract a T.size)))<a
  ·have:=yLr l b w;omega
  ·by_cases x:a<a+nextI (T.extract a T.size)-yFf (T.extract 0 (a+nextI (T.extract a T.size)))
   ·have:=yLr b l x;omega
   ·omega
 ·rw [ct_bord i];exact p h
end
section
open Go.RowKit Go.Proofs Go.Shelf
attribute [local go_sem] qV
theorem yO0 {b:Func} {p:Tmp} {ty:TypeId} (h:b.results=#[.cell p ty]) (c:Array Value) (P:Program) (w:World) :
 (results b c).run P w=((asAddr (c.getD p undef)).run P w).andThen fun a d=>(loadVar ty a).run P d:=by
 simp only [results,h];simp [Sem.run_bind,Result.andThen]
theorem yRc {a:Array Value} {W:World} {g:Nat} {x:Bool} (b:a.getD 4 undef=.pointer (some ⟨g,0,none⟩)) (c:Boxed W g 4 (.bool x)) :
 (results Tryz.f45 a).run Tryz.prog W=.ok (.bool x) W:=by
 have d:Tryz.f45.results=#[.cell 4 4]:=rfl;have e:(loadVar 4 ⟨g,0,none⟩).run Tryz.prog W=.ok (.bool x) W:=by
  simp [loadVar,JU Tryz.underlying4,isAgg,c.cell]
 rw [yO0 d,b];simp only [asAddr,JB,qy,e]
def IsJ (w:World) (X:Int) (n:Nat) (s:ByteArray) (pre:List (yO s)) (W:World):Prop :=
 Boxed W w.heap.size 3 (.int .i64 X)∧Boxed W (w.heap.size+1) 4 (.bool false)∧Boxed W n 9 (.string s)∧(∀R,isF s.size X (pre.map (·.1)++R)=isF s.size X R)∧Below w w W
def IsY (w:World) (X:Int) (s:ByteArray) (c:Code) (pre:List (yO s)) (W:World):Prop :=
 c=.ret∧∃r:Bool,(∀R,isF s.size X (pre.map (·.1)++R)=r)∧Boxed W (w.heap.size+1) 4 (.bool r)∧Below w w W
theorem cIs_any (s:ByteArray) (hs:s.size≤2097152) (X:Int) (w:World) (V:T8 w) :
 Calls Tryz.prog 45 #[s,X] w fun e w'=>e=.returned (.bool (isI s X))∧Below w w w':=by
 refine (qG (n:=4)).1 ?_;refine qI Tryz.func45 rfl trivial ?_ rfl;simp only [Tryz.ntmps45,qW,zb,zn,Nat.reduceAdd,Nat.reduceSub,qX,qY,qZ,qd,zp,zo];have a7:isI s X=isF s.size X (yF s):=rfl;rw [a7];clear a7;gi_upto_region 1 with fail;obtain⟨Y,Z,a0⟩:=yCm w (.cells #[X] 3 (0,0)) (.cells #[false] 4 (0,0));have E:((w.alloc (.cells #[X] 3)).alloc (.cells #[false] 4)).heap.size=w.heap.size+2:=by rw [zM,zM]
 generalize (w.alloc _).alloc _=W1 at Y Z a0 E ⊢;have q1:Boxed W1 w.heap.size 3 (.int .i64 X):=Y;have q2:Boxed W1 (w.heap.size+1) 4 (.bool false):=Z;clear Y Z;gi_wp2;refine⟨trivial,?_⟩;refine (qG.2 (yG1 s _)).mono ?_;rintro e' f ⟨rfl,G⟩;obtain⟨n,hn⟩:=nm (w.heap.size+2);have H:Below W1 W1 f:=G▸(Zc _ _).alloc (zT _) _;have x:Boxed f n 9 (.string s):=by rw [←hn,←E,G];exact zL W1 _
 have b3:f.heap.size=n+1:=by rw [G,zM,E,hn]
 have I:Boxed f w.heap.size 3 (.int .i64 X):=(H.block _ (by omega)).trans q1;have J:Boxed f (w.heap.size+1) 4 (.bool false):=(H.block _ (by omega)).trans q2;have y:Below w w f:=a0.trans (H.mono (by omega));clear G H q1 q2 a0;simp only [E,hn];have L:T8 f:=V.below rfl y;have h3:Tryz.lays197_ren.g 3<w.heap.size:=yD (V.1 0 (by omega));have h4:Tryz.lays197_ren.g 4<w.heap.size:=yD (V.2 0 (by omega)).1;unfold itV;gi_wp2;refine wpIn_rangeFunc_ownF (F:=Fence.wide) rfl (by omega) (gf:=124) (lb:=#[.pointer (some ⟨n,0,none⟩)]) rfl trivial (qJ Tryz.func124 (by kernel_rfl) rfl)
  (yBf 3 (by omega) n w.heap.size s (by omega) h3 h4 f (by omega) x.cell L) (fun h k=>KpB.trans h k) (yEy (w:=f) (by omega)) (Zc _ _) (fun _=>rfl)
  (IsJ w X n s) (IsY w X s) ?hI ?hIx ?h0
  (fun i=>{ tmps:=#[s,X,undef,.pointer (some ⟨w,0,none⟩),.pointer (some ⟨w.heap.size+1,0,none⟩),.int .i64 i.1.1,s,(.func (.func 124) #[] #[.pointer (some ⟨n,0,none⟩)]),.int .i64 i.1.1,.string i.1.2,undef,undef,undef,undef,undef,undef,undef,undef,undef,undef],defers:=[] }) ?assign ?body ?done ?stop
 case hI =>
  rintro pre A B row ⟨d,b,u,m,j⟩ o z;have C:=fun k e=>(z k e).2;exact⟨yV d o C,yV b o C,yV u o C,m,j.grown o (by have:=j.size;omega) (fun k e=>by have:=(z k e).1;omega)⟩
 case hIx =>
  rintro c pre A B row ⟨h0,e,d,b,M⟩ o z;have C:=fun k e=>(z k e).2;exact⟨h0,e,d,yV b o C,M.grown o (by have:=M.size;omega) (fun k e=>by have:=(z k e).1;omega)⟩
 case h0=>exact⟨I,J,x,fun R=>by simp,y⟩
 case assign =>
  intro l i W K t;gi_wp2;exact t
 case body =>
  rintro l pre i W ⟨d,b,u,m,j⟩ b1;obtain⟨N,O⟩:∃a,i.1.1=a:=⟨_,rfl⟩;obtain⟨c,a3⟩:=nm (i.1.2);have hx:=i.2;rw [O,a3] at hx;simp only [O,a3];have a8:∀R,isF s.size X ((pre++[i]).map (·.1)++R)=if X≤(N:Int) then decide ((N:Int)=X) else isF s.size X R:=fun R=>by
   rw [zW,ZA,zZ,m,ZN,isF,O]
  have c1:=d.cell;have c2:=b.cell;have f2:=b.frozen;have A1:=lh d;have P:=lh b;have A4:=lh u;have Q:=lh j;have S:=lh a8;clear d b u m j a8 O a3 hx b1 I J x y L;by_cases hc:X≤(N:Int)
  ·have HE:=lh (fun R=>(S.out R).trans (Zg hc));clear S;gi_wp2;refine⟨ZT _ _ _,?_⟩;refine⟨rfl,decide ((N:Int)=X),HE.out,?_,Q.out.setCell (p:=⟨w.heap.size+1,0,none⟩) (Nat.le_succ _) _⟩;exact yM P.out _
  ·have HE:=lh (fun R=>(S.out R).trans (Zf hc));clear S;gi_wp2;refine⟨KeepsOthers.refl _,⟨Zc _ _,fun v hv=>hv⟩,A1.out,P.out,A4.out,HE.out,Q.out⟩
 case done =>
  rintro D xs W hD b0 ⟨d,b,u,m,j⟩ t;have T:isF s.size X (yF s)=(X==(s.size:Int)):=by
   have:=m [];rw [zq,b0] at this;rw [this,isF];rfl
  have c1:=d.cell;have c2:=b.cell;have f2:=b.frozen;have P:=lh b;have Q:=lh j;have HF:=lh T;clear d b u m j T b0 I J x y L;obtain⟨q,hq⟩:=nm ((X==(s.size:Int)));rw [hq] at HF;gi_wp2;have s2:Boxed (W.setCell ⟨w.heap.size+1,0,none⟩ (.bool q)) (w.heap.size+1) 4 (.bool q):=yM P.out _;have s9:Below w w (W.setCell ⟨w.heap.size+1,0,none⟩ (.bool q)):=Q.out.setCell (p:=⟨w.heap.size+1,0,none⟩) (Nat.le_succ _) _;have U:(W.setCell ⟨w.heap.size+1,0,none⟩ (.bool q)).heap[D]? = some (.deferred (some [])):=yA t (by omega);generalize W.setCell _ _=W5 at s2 s9 U ⊢;refine⟨by simp,.inl ⟨_,_,rfl,Zv U,?_⟩⟩;refine⟨_,yRc rfl (yV s2 (qE W5 D (.deferred none)) (fun r e=>by cases e;exact⟨_,U,rfl⟩)),?_,?_⟩
  ·rw [HF.out]
  ·exact s9.trans (JY (w:=w) (zT _) W5 D _ _ (by omega) U rfl rfl)
 case stop =>
  rintro D c pre W hD b2 ⟨rfl,r,d,b,M⟩ t;have T:isF s.size X (yF s)=r:=by
   obtain⟨R,hR⟩:=b2;have:=d R;rw [hR] at this;exact this
  dsimp only;clear I J x y L;gi_wp2;refine⟨by simp,.inl ⟨_,_,rfl,Zv t,?_⟩⟩;refine⟨_,yRc rfl (yV b (qE W D (.deferred none)) (fun r e=>by cases e;exact⟨_,t,rfl⟩)),?_,?_⟩
  ·rw [T]
  ·exact M.trans (JY (w:=w) (zT _) W D _ _ (by omega) t rfl rfl)
def LaJ (w:World) (n:Nat) (s:ByteArray) (pre:List (yO s)) (W:World):Prop :=
 Boxed W w.heap.size 3 (.int .i64 (yHu (pre.map (·.1))))∧Boxed W n 9 (.string s)∧Below w w W
theorem cLast_any (s:ByteArray) (hs:s.size≤2097152) (w:World) (x:T8 w) :
 Calls Tryz.prog 81 #[s] w fun e w'=>e=.returned (.int .i64 (yFf s))∧Below w w w':=by
 refine (qG (n:=4)).1 ?_;refine qI Tryz.func81 rfl trivial ?_ rfl;simp only [Tryz.ntmps81,qW,zb,zn,Nat.reduceAdd,Nat.reduceSub,qX,qY,qZ,qd,zp,zo];have M:yFf s=yHu (yF s):=rfl;rw [M];clear M;gi_upto_region 2 with fail;have y:=Boxed.new w 3 (.int .i64 0);have z:=qal w (.cells #[.int .i64 0] 3);have q:(w.alloc (.cells #[.int .i64 0] 3)).heap.size=w.heap.size+1:=by rw [zM]
 generalize w.alloc _=W1 at y z q ⊢;gi_wp2;refine⟨trivial,?_⟩;refine (qG.2 (yG1 s _)).mono ?_;rintro e' d ⟨rfl,r⟩;obtain⟨n,C⟩:=nm (w.heap.size+1);have E:Below W1 W1 d:=r▸(Zc _ _).alloc (zT _) _;have t:Boxed d n 9 (.string s):=by rw [←C,←q,r];exact zL W1 _
 have a3:d.heap.size=n+1:=by rw [r,zM,q,C]
 have G:Boxed d w.heap.size 3 (.int .i64 0):=(E.block _ (by omega)).trans y;have u:Below w w d:=z.trans (E.mono (by omega));clear r E y z;simp only [q,C];have H:T8 d:=x.below rfl u;have U:Tryz.lays197_ren.g 3<w.heap.size:=yD (x.1 0 (by omega));have V:Tryz.lays197_ren.g 4<w.heap.size:=yD (x.2 0 (by omega)).1;unfold itV;gi_wp2;refine wpIn_rangeFunc_ownF (F:=Fence.wide) rfl (by omega) (gf:=124) (lb:=#[.pointer (some ⟨n,0,none⟩)]) rfl trivial (qJ Tryz.func124 (by kernel_rfl) rfl)
  (yBf 3 (by omega) n w.heap.size s (by omega) U V d (by omega) t.cell H) (fun h k=>KpB.trans h k) (yEy (w:=d) (by omega)) (Zc _ _) (fun _=>rfl)
  (LaJ w n s) (fun _ _ _=>False) ?hI (fun _ _ _ _ _ h _ _=>h) ?h0
  (fun f=>{ tmps:=#[s,undef,.int .i64 0,.pointer (some ⟨w,0,none⟩),undef,.string f.1.2,s,(.func (.func 124) #[] #[.pointer (some ⟨n,0,none⟩)]),.int .i64 f.1.1,.string f.1.2,undef,undef,undef],defers:=[] }) ?assign ?body ?done ?stop
 case hI =>
  rintro pre A B row ⟨b,m,j⟩ I N;have O:=fun k e=>(N k e).2;exact⟨yV b I O,yV m I O,j.grown I (by have:=j.size;omega) (fun k e=>by have:=(N k e).1;omega)⟩
 case h0=>exact⟨G,t,u⟩
 case assign =>
  intro l f W K o;gi_wp2;exact o
 case body =>
  rintro l pre f W ⟨b,m,j⟩ X;obtain⟨a4,P⟩:∃a,f.1.1=a:=⟨_,rfl⟩;obtain⟨c,J⟩:=nm (f.1.2);simp only [P,J];have Q:yHu ((pre++[f]).map (·.1))=c.size:=(by rw [zW,ZA,yP9,J]);have f1:=b.frozen;have R:=b.cell;have Y:=lh b;have Z:=lh m;have L:=lh j;have a0:=lh Q;clear b m j Q P J X G t u H;gi_wp2;refine⟨ZT _ _ _,⟨(Zc _ _).setCell (p:=⟨w,0,none⟩) (zT _) _,fun v hv=>?_⟩,?_,yA Z.out (by omega),L.out.setCell (p:=⟨w,0,none⟩) (zT _) _⟩
  ·rw [←hv];exact Zw _ _ _ _ (by show w.heap.size≠n;omega)
  ·rw [a0.out];exact yM (i:=0) Y.out _
 case done =>
  rintro D xs W hD S ⟨b,m,j⟩ o;have R:=b.cell;have T:yHu (xs.map (·.1))=yHu (yF s):=(by rw [S]);rw [T] at R;have L:=lh j;clear b m j T S G t u H;gi_wp2;refine⟨by simp,.inl ⟨_,_,rfl,Zv o,?_⟩⟩;refine⟨_,results_tmp rfl _ _ _,rfl,?_⟩;exact L.out.trans (JY (w:=w) (zT _) W D _ _ (by omega) o rfl rfl)
 case stop =>
  rintro D c pre W hD a5 h o;exact h.elim
theorem cPrev_any (T:ByteArray) (hs:T.size≤2097152) (c j:Int) (k:Bool) (w:World) (z:T8 w) :
 Calls Tryz.prog 44 #[T,.agg #[c,k,j]] w fun e w'=>e=.returned (.agg #[.int .i64 (prvI T c),false,.int .i64 (-1)])∧Below w w w':=by
 have M:=lh (fun (W:World) (h:Below w w W)=>yEc T hs c j k W (z.below rfl h));obtain⟨kb,A⟩:=yOc T c;have N:=A.1;have r:=lh (fun (W:World) (h:Below w w W)=>cLast_any (T.extract 0 (ctI T c)) (by have:=yCh T 0 (ctI T c) (zd _) N;omega) W (z.below rfl h));have C:yFf (T.extract 0 (ctI T c))≤ctI T c:=(yL6 A).1;obtain⟨R,l⟩:=nm (prvI T c);rw [l];unfold prvI at l;obtain⟨a,O⟩:=nm (ctI T c);rw [O] at M N r l C;obtain⟨q,P⟩:=nm (yFf (T.extract 0 a));rw [P] at r l C;obtain⟨h0,D,s,Q⟩:=yBq w (.cells #[c,k,j] 33) (.cells #[.int .i64 0,false,.int .i64 0] 33);have b2:IntKind.i64.wrap ((a:Int)-(q:Int))=(R:Int):=by rw [ZH];omega
 have b3:(0:Int)≤(a:Int):=by omega
 have b4:(a:Int)≤(T.size:Int):=by omega
 clear O P z A l C;go_enter Tryz.func44,Tryz.ntmps44;go_upto_region 1 with fail;generalize (w.alloc _).alloc _=W1 at h0 D s Q ⊢;have U:=lh (M.out W1 s);obtain⟨B,m⟩:=nm (w.heap.size);have X:=lh s;have Y:=lh h0;have Z:=lh D;rw [m] at Y Z Q ⊢;have c0:W1.cell? ⟨B,0,none⟩=some (.int .i64 c):=by rw [m] at h0;simp [World.cell?,h0]
 have c1:W1.cell? ⟨B,1,none⟩=some (.bool k):=by rw [m] at h0;simp [World.cell?,h0]
 have c2:W1.cell? ⟨B,2,none⟩=some (.int .i64 j):=by rw [m] at h0;simp [World.cell?,h0]
 clear h0 D s;go_upto_region 2 with (go_at_call 72;refine U.out.mono ?_;rintro e d ⟨rfl,t⟩;have b:=(t.block B (by omega)).trans Y.out;have E:d.cell? ⟨B,0,none⟩=some (.int .i64 c):=(ce b);have e1:d.cell? ⟨B,1,none⟩=some (.bool k):=(ce b);have e2:d.cell? ⟨B,2,none⟩=some (.int .i64 j):=(ce b);have F:d.frozen? ⟨B,0,none⟩=false:=(fz b);have f1:d.frozen? ⟨B,1,none⟩=false:=(fz b);have f2:d.frozen? ⟨B,2,none⟩=false:=(fz b));have a5:=lh (X.out.trans (t.mono X.out.size));have G1:=lh ((t.block (B+1) (by omega)).trans Z.out);have G0:=lh (show (((d.setCell ⟨B,0,none⟩ (.int .i64 a)).setCell ⟨B,1,none⟩ (.bool false)).setCell ⟨B,2,none⟩ (.int .i64 (-1))).heap[B]? = some (.cells #[a,false,.int .i64 (-1)] 33 (0,0)) from (yT b _ _ _).1);obtain⟨V,n⟩:=nm (((d.setCell ⟨B,0,none⟩ (.int .i64 a)).setCell ⟨B,1,none⟩ (.bool false)).setCell ⟨B,2,none⟩ (.int .i64 (-1)));have a0:Below B d V:=by rw [←n];exact (yT b _ _ _).2
 have u:=G0.out;rw [n] at u ⊢;have a1:V.heap[B+1]? = some (.cells #[.int .i64 0,false,.int .i64 0] 33 (0,0)):=by
  have h:=G1.out;rw [←n];exact yCp h (by omega) _ _ _
 have b5:V.heap.size=d.heap.size:=by rw [←n];simp
 have v:=lh (a5.out.trans (m▸a0));have b6:B+2≤V.heap.size:=by have:=t.size;omega
 clear b E e1 e2 F f1 f2 n G0 G1 a0 c0 c1 c2 U;refine yLe (fun W=>Below V V W) (by kernel_rfl) (by kernel_rfl) ?_;have G:Below V V V.drew:=(Zc _ _).drew;obtain⟨S,x⟩:∃S:World→Prop,(fun W=>Below V V W)=S:=⟨_,rfl⟩;have a2:∀W,S W→Below V V W:=fun W h=>by rw [←x] at h;exact h
 have H:∀W,Below V V W→S W:=fun W h=>by rw [←x];exact h
 rw [x];have y0:∀p:WIn S,p.w.cell? ⟨B,0,none⟩=some (.int .i64 a):=fun p=>yB (a2 _ p.h) (by omega) (ce u);have y:=lh H;have a6:Nonempty (WIn S):=⟨⟨V,H _ (Zc _ _)⟩⟩;have HN:=lh (r.out V.drew (v.out.trans (G.mono v.out.size)));have a7:=lh u;have a8:=lh a1;clear a2 H x u a1 r;simp only [yAz,nop,yDx];refine yAq [0,1,2,3,4,5] 6 [_,_,_,_,_,_] (fuel:=3) (yOo yC) (by kernel_rfl) (y.out _ G) ?_
 repeat (go_big_quiet_step (fail))
 refine Zt ?_;intro K a3;go_wp2_with (go_at_call 81;refine HN.out.mono ?_;rintro e f ⟨rfl,a9⟩);have o:Below V V f:=G.trans a9;refine a3.out _ _ (y.out _ o) ?_;clear a3;refine yAi [7,8,9] (yOo yC) (by kernel_rfl) (y.out _ o) ?_;simp only [yS,zD,zE,zC,zB,zA];show wpQuiet _ _ _ _ [_,_,_] _
 repeat (go_big_quiet_step (fail))
 refine Zt ?_;change wpList _ _ _ _ _ _;have b:=(o.block B (by omega)).trans a7.out;have I:=(o.block (B+1) (by omega)).trans a8.out;have E:=qc1 b;have F:f.frozen? ⟨B,0,none⟩=false:=fz b;have b0:=lh (v.out.trans (o.mono v.out.size));clear y0 a6 y HN;go_wp2;refine NoPanic.normal ?_;have J:(f.setCell ⟨B,0,none⟩ (.int .i64 R)).heap[B]? = some (.cells #[R,false,.int .i64 (-1)] 33 (0,0)):=yM (i:=0) b _;have g:(f.setCell ⟨B,0,none⟩ (.int .i64 R)).heap[B+1]? = some (.cells #[.int .i64 0,false,.int .i64 0] 33 (0,0)):=((Zu f B (.int .i64 R)).block (B+1) (zH.1 I).1 (fun e=>qF (zu e) (by omega))).trans I;have L:Below w w (f.setCell ⟨B,0,none⟩ (.int .i64 R)):=b0.out.setCell (p:=⟨B,0,none⟩) (by show w.heap.size≤B;omega) _;generalize f.setCell _ _=w4 at J g L ⊢;obtain⟨hg,a4⟩:=yT g (.int .i64 R) (.bool false) (.int .i64 (-1));obtain⟨c0,c1,c2⟩:=qc3 J;obtain⟨d0,d1,d2⟩:=qc3 g;have k0:w4.frozen? ⟨B+1,0,none⟩=false:=fz g;have k1:w4.frozen? ⟨B+1,1,none⟩=false:=fz g;have k2:w4.frozen? ⟨B+1,2,none⟩=false:=fz g;have HG:=lh hg;have b1:=lh (L.trans (a4.mono (by omega)));clear b I J g L hg a4 E F;go_wp2;exact qC (JT (ty:=33) rfl _ _ (B+1) _ _ _ _ rfl HG.out yh rfl yu) rfl ⟨rfl,b1.out⟩
theorem LawCT_any (T:ByteArray) (O:T.size≤2097152) (c I:Int) (J:Bool) (w:World) (hT:T8 w) (hD:DB w) :
 Calls Tryz.prog 10 #[T,.agg #[c,J,I]] w fun e w'=>e=.returned (.bool true)∧Below w w w':=by
 obtain⟨t1,t2,t3,t4,t5,t6,t7,t8,t9,a4⟩:=there_plain T c;have t:=lh (fun (W:World) (h:Below w w W)=>(⟨hT.below rfl h,hD.below h⟩:T8 W∧DB W));have HN:=lh (fun (W:World) (h:Below w w W)=>yL1 T O c I J W (t.out W h).1);have HP:=lh (fun (W:World) (h:Below w w W)=>cPrev_any T O c I J W (t.out W h).1);have HW:=lh (fun (W:World) (h:Below w w W)=>(yMu T O c I J 0 (by omega) W (t.out W h).1).mono (fun e w' h=>(by rw [wnF] at h;exact h:e=.returned (.agg #[.int .i64 (ctI T c),false,.int .i64 (-1)])∧Below W W w')));have f2:=lh (fun (W:World) (h:Below w w W)=>yI1 W (t.out W h).1 (t.out W h).2);have f3:ctI T c≤T.size:=by omega
 obtain⟨q,hq⟩:=nm (nxtI T c);obtain⟨p,hp⟩:=nm (prvI T c);obtain⟨a,ha⟩:=nm (ctI T c);rw [hq] at t1 t4 t6 t7 t9 HN;rw [hp] at t2 t5 t8 a4 HP;rw [ha] at t3 t4 t5 t7 t8 t9 a4 HW f3;have HI:=lh (fun (x:Nat) (W:World) (hx:isI T x=true) (h:Below w w W)=>(cIs_any T O x W (t.out W h).1).mono (fun e w' h=>(by rw [hx] at h;exact h:e=.returned (.bool true)∧Below W W w')));have f4:=lh (fun (W:World) (V:q≠a) (h:Below w w W)=>(cPrev_any T O q (-1) false W (t.out W h).1).mono (fun e w' h=>(by rw [t9 V] at h;exact h:e=.returned (.agg #[a,false,.int .i64 (-1)])∧Below W W w')));have f5:=lh (fun (W:World) (V:p≠a) (h:Below w w W)=>(yL1 T O p (-1) false W (t.out W h).1).mono (fun e w' h=>(by rw [a4 V] at h;exact h:e=.returned (.agg #[a,false,.int .i64 (-1)])∧Below W W w')));have f6:=lh t1;have f7:=lh t2;have f8:=lh t3;have a5:∀(W:World) (o:Obj),Below W W (W.alloc o):=fun W o=>(Zc _ _).alloc (zT _) _;clear hT hD t1 t2 t3 t9 a4 hq hp ha;go_enter Tryz.func10,Tryz.ntmps10;go_upto_region 1 with fail;have a6:=zL w (.cells #[c,J,I] 33);have b1:=a5 w (.cells #[c,J,I] 33);generalize w.alloc _=W1 at a6 b1 ⊢;obtain⟨B,hB⟩:=nm (w.heap.size);have b2:=lh b1;rw [hB] at a6
 try rw [hB]
 have b3:=lh a6;clear a6 b1;obtain⟨X,Y,Z⟩:=qc3 b3.out;go_upto_region 2 with (go_at_call 43;refine (HN.out W1 b2.out).mono ?_;rintro e u ⟨rfl,b4⟩);have a7:=zL u (.cells #[q,false,.int .i64 (-1)] 33);have a8:=b4.trans ((a5 u (.cells #[q,false,.int .i64 (-1)] 33)).mono b4.size);generalize u.alloc _=W2 at a7 a8 ⊢;obtain⟨P,d4⟩:∃C,u.heap.size=C:=⟨_,rfl⟩;rw [d4] at a7
 try rw [d4]
 have b5:=lh (b2.out.trans (a8.mono b2.out.size));have b6:=lh ((a8.block B (zH.1 b3.out).1).trans b3.out);have d5:=lh a7;clear a7 a8 b4 X Y Z;obtain⟨X,Y,Z⟩:=qc3 b6.out;go_upto_region 3 with (go_at_call 44;refine (HP.out W2 b5.out).mono ?_;rintro e y ⟨rfl,b7⟩);have a9:=zL y (.cells #[p,false,.int .i64 (-1)] 33);have a0:=b7.trans ((a5 y (.cells #[p,false,.int .i64 (-1)] 33)).mono b7.size);generalize y.alloc _=W3 at a9 a0 ⊢;obtain⟨C1,d6⟩:∃C,y.heap.size=C:=⟨_,rfl⟩;rw [d6] at a9
 try rw [d6]
 have b8:=lh (b5.out.trans (a0.mono b5.out.size));have b9:=lh ((a0.block B (zH.1 b6.out).1).trans b6.out);have d7:=lh a9;have d8:=lh ((a0.block P (zH.1 d5.out).1).trans d5.out);clear a9 a0 b7 X Y Z;obtain⟨X,Y,Z⟩:=qc3 b9.out;go_upto_region 4 with (go_at_call 38;refine (HW.out W3 b8.out).mono ?_;rintro e z ⟨rfl,c0⟩);have b0:=zL z (.cells #[a,false,.int .i64 (-1)] 33);have Q:=c0.trans ((a5 z (.cells #[a,false,.int .i64 (-1)] 33)).mono c0.size);generalize z.alloc _=W4 at b0 Q ⊢;obtain⟨C2,d9⟩:∃C,z.heap.size=C:=⟨_,rfl⟩;rw [d9] at b0
 try rw [d9]
 have c5:=lh (b8.out.trans (Q.mono b8.out.size));have g8:=lh ((Q.block B (zH.1 b9.out).1).trans b9.out);have e0:=lh b0;have e3:=lh ((Q.block P (zH.1 d8.out).1).trans d8.out);have e4:=lh ((Q.block C1 (zH.1 d7.out).1).trans d7.out);clear b0 Q c0 X Y Z;have e5:∀(W:World),Below W4 W4 W→(W.cell? ⟨P,0,none⟩=some (.int .i64 q)∧W.cell? ⟨P,1,none⟩=some (.bool false)∧W.cell? ⟨P,2,none⟩=some (.int .i64 (-1)))∧(W.cell? ⟨C1,0,none⟩=some (.int .i64 p)∧W.cell? ⟨C1,1,none⟩=some (.bool false)∧W.cell? ⟨C1,2,none⟩=some (.int .i64 (-1))) ∧
  (W.cell? ⟨C2,0,none⟩=some (.int .i64 a)∧W.cell? ⟨C2,1,none⟩=some (.bool false)∧W.cell? ⟨C2,2,none⟩=some (.int .i64 (-1))):=fun W h=>by
  have g0:=(h.block P (zH.1 e3.out).1).trans e3.out;have g1:=(h.block C1 (zH.1 e4.out).1).trans e4.out;have g2:=(h.block C2 (zH.1 e0.out).1).trans e0.out;exact⟨⟨by simp [World.cell?,g0],by simp [World.cell?,g0],by simp [World.cell?,g0]⟩,⟨by simp [World.cell?,g1],by simp [World.cell?,g1],by simp [World.cell?,g1]⟩,⟨by simp [World.cell?,g2],by simp [World.cell?,g2],by simp [World.cell?,g2]⟩⟩
 have c6:=lh e5;obtain⟨⟨A,D,E⟩,⟨F,G,H⟩,⟨m,n,r⟩⟩:=c6.out W4 (Zc _ _);clear e5;have L:Hid (Below W4 W4 W4):=lh (Zc _ _);have a1:Hid (Below w w W4):=lh c5.out;go_upto_if 64 with (go_at_call 45;refine (HI.out _ _ (by first | exact f6.out | exact f7.out | exact f8.out) a1.out).mono ?_;rintro e w5 ⟨rfl,e6⟩;replace L:=lh (L.out.trans (e6.mono L.out.size));replace a1:=lh (c5.out.trans (L.out.mono c5.out.size));clear A D E F G H m n r;obtain⟨⟨A,D,E⟩,⟨F,G,H⟩,⟨m,n,r⟩⟩:=c6.out w5 L.out;clear e6);have d1:decide ((q:Int)<(a:Int))=false:=zP (by omega);have e7:decide (q<a)=false:=zP (by omega);have d2:decide ((p:Int) > (a:Int))=false:=zP (by omega);have e8:decide (a<p)=false:=zP (by omega);have e9:decide ((a:Int)<(p:Int))=false:=zP (by omega);have H7:=lh t7;have H8:=lh t8;clear t4 t5 t6 t7 t8;go_upto_region 6 with fail;obtain⟨f,f9⟩:∃W,W=w5:=⟨_,rfl⟩;subst f9;go_cut [102] from 65 to 101 (fun v wx=>v=.bool false∧wx=f)
 case first=>as_aux_lemma =>
  by_cases k:q=a
  case' neg =>
   have c1:((q:Int)==(a:Int))=false:=zN.2 (by omega);have c7:(q==a)=false:=zN.2 k
  case' pos =>
   have c1:((q:Int)==(a:Int))=true:=ZD.2 (by omega);have c7:(q==a)=true:=ZD.2 k;have c2:((q:Int) != (T.size:Int))=false:=bne_eq_false_iff_eq.2 (by have:=H7.out k;omega);have g9:(q != T.size)=false:=bne_eq_false_iff_eq.2 (H7.out k)
  all_goals
   by_cases R:p=a
   ·have c3:((p:Int)==(a:Int))=true:=ZD.2 (by omega);have g3:(p==a)=true:=ZD.2 R;have c4:((p:Int) != 0)=false:=bne_eq_false_iff_eq.2 (by have:=H8.out R;omega);have h0:(p != 0)=false:=bne_eq_false_iff_eq.2 (H8.out R);clear k R;go_wp2;go_meet
    case rel=>exact⟨rfl,rfl⟩
   ·have c3:((p:Int)==(a:Int))=false:=zN.2 (by omega);have g3:(p==a)=false:=zN.2 R;clear k R;go_wp2;go_meet
    case rel=>exact⟨rfl,rfl⟩
 case rest =>
  obtain⟨rfl,f0⟩:=hcut;rw [f0];clear f0;go_upto_region 8 with fail;go_cut [8] from 103 to 112 (fun v wx=>v=.bool true∧Below f f wx)
  case first=>as_aux_lemma =>
   obtain⟨S,a2,M⟩:∃S:World→Prop,(∀W,S W→Below f f W)∧(∀W,Below f f W→S W):=⟨fun W=>Below f f W,fun _ h=>h,fun _ h=>h⟩;have g:∀(b i:Nat) (v:Value),f.cell? ⟨b,i,none⟩=some v→∀p:WIn S,p.w.cell? ⟨b,i,none⟩=some v:=fun b i v h p=>yB (a2 _ p.h) (yD h) h;have u0:=g _ _ _ A;have u1:=g _ _ _ D;have u2:=g _ _ _ E;have u:=g _ _ _ m;have y:=g _ _ _ n;have z:=g _ _ _ r;have s:=lh M;have V:Nonempty (WIn S):=⟨⟨f,M _ (Zc _ _)⟩⟩;have a3:=lh a1.out;clear a2 M g A D E F G H m n r d1 e7 d2 e8 e9;refine yn S (by kernel_rfl) ?_;have d:Below f f f.drew:=(Zc _ _).drew;generalize f.drew=X0 at d ⊢;by_cases k:q=a
   case' neg =>
    have c1:((q:Int)==(a:Int))=false:=zN.2 (by omega);have c7:(q==a)=false:=zN.2 k;have HC:=lh (f4.out X0 k (a3.out.trans (d.mono a3.out.size)));refine yAq [0,1,2,3,4,5,7] 6 [_,_,_,_,_,_,_] (fuel:=3) yC (by kernel_rfl) (s.out _ d) ?_
    repeat (go_big_quiet_step (fail))
    refine Zt ?_;intro K N;go_wp2_with (go_at_call 44;refine HC.out.mono ?_;rintro e w7 ⟨rfl,U⟩);have l:=d.trans (U.mono d.size)
   case' pos =>
    subst k;have c1:((q:Int)==(q:Int))=true:=zk _;refine yAq [0,1,2,3,4,5,7] 6 [_,_,_,_,_,_,_] (fuel:=3) yC (by kernel_rfl) (s.out _ d) ?_
    repeat (go_big_quiet_step (fail))
    refine Zt ?_;intro K N;go_wp2;have l:=d
   all_goals
    refine N.out _ _ (s.out _ l) ?_;clear N;refine yAi [8,9,10] yC (by kernel_rfl) (s.out _ l) ?_;simp only [yS,zD,zE,zC,zB,zA];show wpQuiet _ _ _ _ [_,_,_] _
    repeat (go_big_quiet_step (fail))
    refine Zt ?_;have c8:=lh l;simp only [NoPanic];clear u0 u1 u2 u y z d l;go_wp2;go_meet
    case rel=>exact⟨rfl,c8.out⟩
  case rest =>
   obtain⟨j,g4⟩:∃W,W=wc:=⟨_,rfl⟩;subst g4;obtain⟨rfl,c9⟩:=hcut;have d0:=lh (a1.out.trans (c9.mono a1.out.size));have g5:=lh (L.out.trans (c9.mono L.out.size));clear A D E F G H m n r c9 d1 e7 d2 e8 e9;obtain⟨⟨A,D,E⟩,⟨F,G,H⟩,⟨m,n,r⟩⟩:=c6.out j g5.out;go_upto_region 9 with fail;go_cut [9] from 113 to 122 (fun v wx=>v=.bool true∧Below j j wx)
   case first=>as_aux_lemma =>
    obtain⟨S,a2,M⟩:∃S:World→Prop,(∀W,S W→Below j j W)∧(∀W,Below j j W→S W):=⟨fun W=>Below j j W,fun _ h=>h,fun _ h=>h⟩;have g:∀(b i:Nat) (v:Value),j.cell? ⟨b,i,none⟩=some v→∀p:WIn S,p.w.cell? ⟨b,i,none⟩=some v:=fun b i v h p=>yB (a2 _ p.h) (yD h) h;have u0:=g _ _ _ F;have u1:=g _ _ _ G;have u2:=g _ _ _ H;have u:=g _ _ _ m;have y:=g _ _ _ n;have z:=g _ _ _ r;have s:=lh M;have V:Nonempty (WIn S):=⟨⟨j,M _ (Zc _ _)⟩⟩;have a3:=lh d0.out;clear a2 M g A D E F G H m n r;refine yn S (by kernel_rfl) ?_;have d:Below j j j.drew:=(Zc _ _).drew;generalize j.drew=X0 at d ⊢;by_cases k:p=a
    case' neg =>
     have c1:((p:Int)==(a:Int))=false:=zN.2 (by omega);have c7:(p==a)=false:=zN.2 k;have HC:=lh (f5.out X0 k (a3.out.trans (d.mono a3.out.size)));refine yAq [0,1,2,3,4,5,7] 6 [_,_,_,_,_,_,_] (fuel:=3) yC (by kernel_rfl) (s.out _ d) ?_
     repeat (go_big_quiet_step (fail))
     refine Zt ?_;intro K N;go_wp2_with (go_at_call 43;refine HC.out.mono ?_;rintro e w7 ⟨rfl,U⟩);have l:=d.trans (U.mono d.size)
    case' pos =>
     subst k;have c1:((p:Int)==(p:Int))=true:=zk _;refine yAq [0,1,2,3,4,5,7] 6 [_,_,_,_,_,_,_] (fuel:=3) yC (by kernel_rfl) (s.out _ d) ?_
     repeat (go_big_quiet_step (fail))
     refine Zt ?_;intro K N;go_wp2;have l:=d
    all_goals
     refine N.out _ _ (s.out _ l) ?_;clear N;refine yAi [8,9,10] yC (by kernel_rfl) (s.out _ l) ?_;simp only [yS,zD,zE,zC,zB,zA];show wpQuiet _ _ _ _ [_,_,_] _
     repeat (go_big_quiet_step (fail))
     refine Zt ?_;have c8:=lh l;simp only [NoPanic];clear u0 u1 u2 u y z d l;go_wp2;go_meet
     case rel=>exact⟨rfl,c8.out⟩
   case rest =>
    obtain⟨W7,g6⟩:∃W,W=wc:=⟨_,rfl⟩;subst g6;obtain⟨rfl,U⟩:=hcut;have d3:=lh (d0.out.trans (U.mono d0.out.size));have HK:=lh (f2.out W7 d3.out);clear A D E F G H m n r U;go_wp2_with (go_at_call 34;refine HK.out.mono ?_;rintro e w9 ⟨rfl,f1⟩;have g7:=lh (d3.out.trans (f1.mono d3.out.size));clear f1);go_ret;exact⟨rfl,g7.out⟩
end
end Go.Proofs.YtncplikdjcmoeaaGreatDoor
