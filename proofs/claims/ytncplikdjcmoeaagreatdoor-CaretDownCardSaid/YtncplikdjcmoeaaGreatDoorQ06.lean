/- Lemmas, part 6: no further condition than each states. -/
import Derived.Test.YtncplikdjcmoeaaGreatDoorQ04
namespace Go.Proofs.YtncplikdjcmoeaaGreatDoor
set_option linter.unusedVariables false
set_option linter.unusedSimpArgs false
set_option maxRecDepth 100000
set_option maxHeartbeats 4000000
section
open Go.RowKit Go.Proofs
def yDb (c:ByteArray):Int :=
 if yAh c=65533∧yAa c<2 then 0
 else if yDn (yAh c)=3∧yEn (yAh c)=7 then 2
 else if yDn (yAh c)=3∨yDn (yAh c)=2∨yAh c=95 then 3
 else if yDn (yAh c)=4 then 4
 else if yAh c=9∨(yDn (yAh c)=5∧yEn (yAh c)≠2) then 1
 else 0
theorem wsort_any (c:ByteArray) (w:World) (F:T8 w):Calls Tryz.prog 197 #[c] w fun e w'=>e=.returned (.int .i64 (yDb c))∧Below w w w':=by
 obtain⟨X,t⟩:=nm (yAh c);obtain⟨K,u⟩:=nm (yAa c);obtain⟨b,v⟩:=nm (yEn X);obtain⟨k,x⟩:=nm (yDn X);obtain⟨V,y⟩:=nm (yDb c);have G:V=if X=65533∧K<2 then 0 else if k=3∧b=7 then 2 else if k=3∨k=2∨X=95 then 3 else if k=4 then 4 else if X=9∨(k=5∧b≠2) then 1 else 0:=by rw [←y];unfold yDb;rw [t,u,v,x]
 have z:=lh G;have A:=lh (yD4 c w F);have B:=lh (fun W=>yJl X W);have C:=lh (fun W=>yIk X W);rw [y];rw [t,u] at A;rw [v] at B;rw [x] at C;clear y G t u v x F;go_enter Tryz.func197,Tryz.ntmps197;go_upto_region 2 with (go_at_call 95;refine A.out.mono ?_;rintro e w1 ⟨rfl,m⟩);by_cases i:X=65533∧K<2
 ·obtain⟨H,L⟩:=i;have I:(X==65533)=true:=ZD.2 H;have M:(K:Int)<2:=(by omega);go_wp2;go_ret;exact⟨yK (by rw [z.out,Zg ⟨H,L⟩]),m⟩
 have D:=z.out;rw [Zf i] at D;have d:=lh D;clear D z;by_cases n:X=65533
 case' neg =>
  have I:(X==65533)=false:=zN.2 n;clear i
 case' pos =>
  have I:(X==65533)=true:=ZD.2 n;have M:¬ (K:Int)<2:=fun h=>i ⟨n,by omega⟩;clear i n
 all_goals
  go_upto_block 0 with (first
   | (go_at_call 119;refine (C.out _).mono ?_;rintro e O ⟨rfl,E⟩)
   | (go_at_call 96;refine (B.out _).mono ?_;rintro e P ⟨rfl,J⟩))
  have f:=m.trans ((E.trans (J.mono E.size)).mono m.size);clear m E J A B C;by_cases a:k=3
  ·have Q:(k==3)=true:=ZD.2 a;by_cases o:b=7
   ·have R:(b==7)=true:=ZD.2 o;go_wp2;go_ret;exact⟨yK (by rw [d.out];rw [Zg ⟨a,o⟩]),f⟩
   ·have S:(b==7)=false:=zN.2 o;go_wp2;go_ret;exact⟨yK (by rw [d.out];rw [Zf (fun h=>o h.2),Zg (.inl a)]),f⟩
  ·have T:(k==3)=false:=zN.2 a;by_cases p:k=2
   ·have U:(k==2)=true:=ZD.2 p;go_wp2;go_ret;exact⟨yK (by rw [d.out];rw [Zf (fun h=>a h.1),Zg (.inr (.inl p))]),f⟩
   ·have Y:(k==2)=false:=zN.2 p;by_cases q:X=95
    ·have Z:(X==95)=true:=ZD.2 q;go_wp2;go_ret;exact⟨yK (by rw [d.out];rw [Zf (fun h=>a h.1),Zg (.inr (.inr q))]),f⟩
    ·have a0:(X==95)=false:=zN.2 q;have j:¬ (k=3∨k=2∨X=95):=fun h=>h.elim a (fun h=>h.elim p q);by_cases g:k=4
     ·have a1:(k==4)=true:=ZD.2 g;go_wp2;go_ret;exact⟨yK (by rw [d.out];rw [Zf (fun h=>a h.1),Zf j,Zg g]),f⟩
     ·have a2:(k==4)=false:=zN.2 g;by_cases l:X=9
      ·have a3:(X==9)=true:=ZD.2 l;go_wp2;go_ret;exact⟨yK (by rw [d.out];rw [Zf (fun h=>a h.1),Zf j,Zf g,Zg (.inl l)]),f⟩
      ·have a4:(X==9)=false:=zN.2 l;by_cases r:k=5
       ·have a5:(k==5)=true:=ZD.2 r;by_cases s:b=2
        ·have N:(b != 2)=false:=(by simpa using s);go_wp2;go_ret;exact⟨yK (by rw [d.out];rw [Zf (fun h=>a h.1),Zf j,Zf g,Zf (fun h=>h.elim l (fun h=>h.2 s))]),f⟩
        ·have N:(b != 2)=true:=(by simpa using s);go_wp2;go_ret;exact⟨yK (by rw [d.out];rw [Zf (fun h=>a h.1),Zf j,Zf g,Zg (.inr ⟨r,s⟩)]),f⟩
       ·have a6:(k==5)=false:=zN.2 r;go_wp2;go_ret;exact⟨yK (by rw [d.out];rw [Zf (fun h=>a h.1),Zf j,Zf g,Zf (fun h=>h.elim l (fun h=>r h.1))]),f⟩
end
section
open Go Go.RowKit
def yM6 (o:Oper):Bool:=match o.op with
 | .move _ | .assign _ | .pick _ _ _ | .load _ _ | .binOp _ _ _ _ _ | .unOp _ _ _ | .slice _ _ _ _ _ | .fieldAddr _ _ _ | .field _ _ _ | .indexAddr _ _ _ | .index _ _ _ | .extract _ _ | .build _ _=>true
 | .nilCheck _=>true
 | .call c=>match c.callee with
   | .builtin .len=>true
   | _=>false
 | _=>false
theorem v_run {P:Program} {s:Sem Value} {w w':World} {n:Next} (h:(s >>= fun x=>pure (Next.value x)).run P w=.ok n w'):∃u,n=.value u:=by
 rw [Sem.run_bind] at h;cases hs:s.run P w with
 | ok x w1 =>
   rw [hs,qy,JB] at h;cases h;exact⟨x,rfl⟩
 | halt x w1=>rw [hs] at h;cases h
theorem v_any {P:Program} {α:Type} {x:Sem α} {f:α→Sem Next} (b:∀a w n w',(f a).run P w=.ok n w'→∃u,n=.value u) {w w':World} {n:Next} (h:(x >>= f).run P w=.ok n w'):∃u,n=.value u:=by
 rw [Sem.run_bind] at h;cases hs:x.run P w with
 | ok a w1=>rw [hs,qy] at h;exact b _ _ _ _ h
 | halt a w1=>rw [hs] at h;cases h
theorem plain_run {P:Program} {o:Oper} {ρ:Operand→Value} {w w':World} {n:Next} (a:yM6 o=true) (h:(execOp ρ o).run P w=.ok n w'):∃u,n=.value u:=by
 unfold yM6 at a;unfold execOp at h;cases ho:o.op <;> rw [ho] at a h <;> first | (cases a;done) | skip
 all_goals dsimp only at h
 case call c =>
  dsimp only at a;cases hc:c.callee with
  | builtin b =>
    rw [hc] at a;cases b <;> first | (cases a;done) | skip
    simp only [resolve,hc,Sem.run_bind,JB,qy,invoke,builtin] at h;cases hs:(Builtin.len_ c.argTypes o.type (Array.map ρ c.args)).run P w with
    | ok x w1=>rw [hs,qy] at h;cases h;exact⟨x,rfl⟩
    | halt x w1=>rw [hs] at h;cases h
  | value x=>rw [hc] at a;cases a
  | _=>rw [hc] at a;cases a
 case move=>rw [JB] at h;cases h;exact⟨_,rfl⟩
 case assign=>rw [JB] at h;cases h;exact⟨_,rfl⟩
 case nilCheck x =>
  split at h
  any_goals (simp [runtimePanic] at h;done)
  any_goals (rw [JB] at h;cases h;exact⟨_,rfl⟩)
  split at h
  ·simp [runtimePanic] at h
  ·refine v_any (fun b f g i d=>?_) h;refine v_any (fun c j k l e=>?_) d;split at e
   ·refine v_any (fun b f g i d=>?_) e;rw [JB] at d;cases d;exact⟨_,rfl⟩
   ·rw [JB] at e;cases e;exact⟨_,rfl⟩
  ·rw [JB] at h;cases h;exact⟨_,rfl⟩
 case pick =>
  rw [Sem.run_bind] at h;cases hs:(asBool _).run P w with
  | ok x w1=>rw [hs,qy,JB] at h;cases h;exact⟨_,rfl⟩
  | halt x w1=>rw [hs] at h;cases h
 all_goals exact v_run h
section
variable {P:Program} {ops:Array Oper} {Q:Exit→Act→World→Prop} {md:Region.Mode} {S:World→Prop}
structure WIn (S:World→Prop) where
 w:World
 h:S w
def CS (S:World→Prop):World→Prop:=fun w'=>∃p:WIn S,w'=p.w
theorem CS.of {w:World} (h:S w):CS S w:=⟨⟨w,h⟩,rfl⟩
theorem yNn {o:Oper} {a:Act} {v:Value} {w:World} (b:yM6 o=true) (h:o.quietAt P a (CS S) w v):(execOp a.eval o).run P w=.ok (.value v) w:=by
 unfold Oper.quietAt at h;cases hr:(execOp a.eval o).run P w with
 | halt x w'=>rw [hr] at h;simp only [Oper.quietUpon] at h
 | ok n w' =>
   obtain⟨u,rfl⟩:=plain_run b hr;rw [hr] at h;simp only [Oper.quietUpon] at h;obtain⟨rfl,rfl⟩:=h;rfl
def setN:Nat→Nat→Array Bool→Array Bool
 | 0,_,l=>l
 | m+1,k,l=>setN m (k+1) (l.setIfInBounds k true)
def yLd (ops:Array Oper) (k:Nat):Bool:=match ops[k]? with
 | some o=>yM6 o
 | none=>false
def headB (md:Region.Mode) (ops:Array Oper):Nat→Nat→Array Bool→Bool
 | 0,_,_=>true
 | m+1,k,l=>(Region.ready md ops l).contains k&&Region.free md ops l k&&yLd ops k&&headB md ops m (k+1) (l.setIfInBounds k true)
theorem yMn (f:Region.noSelect ops=true) (g:∀c a b w,Q (.panic c) a w→Q (.panic c) b w) {Lq:Act→Prop} {fuel:Nat} {w:World} (i:S w) :
 ∀(h:List Oper) (k:Nat) (l:Array Bool) (a:Act),(∀j,j<h.length→h[j]? = ops[k+j]?)→headB md ops h.length k l=true→wpQuiet P ops (CS S) Lq h a →
   (∀b,Lq b→wpAnyH P md ops Q S fuel (setN h.length k l) b w)→wpAnyH P md ops Q S (h.length+fuel) l a w
 | [],k,l,a,_,_,hw,hn=>by rw [zn,Za];exact hn a hw
 | o::h,k,l,a,he,hB,hw,hn=>by
   have h0:ops[k]? = some o:=(by have:=he 0 (by simp);simpa using this.symm);simp only [zb,headB,ZU] at hB;obtain⟨⟨⟨m,n⟩,d⟩,p⟩:=hB;have q:yM6 o=true:=(by unfold yLd at d;rw [h0] at d;exact d);have r:∃v,YieldsIf P ops S o v a∧wpQuiet P ops (CS S) Lq h (a.put o.dst v):=by
    unfold wpQuiet at hw;split at hw
    ·rename_i e;obtain⟨v,s,t⟩:=hw;exact⟨v,.inl ⟨e,fun w' u=>yNn q (s w' (CS.of u))⟩,t⟩
    ·rename_i e;exact⟨undef,.inr ⟨by simpa using e,rfl⟩,hw⟩
   obtain⟨v,x,y⟩:=r;rw [zb,show h.length+1+fuel=(h.length+fuel)+1 by omega];refine wpAnyH_take h0 f n m (fun c b w' z=>g c _ _ w' z) x i ?_;exact yMn f g i h (k+1) _ _ (fun j A=>by have:=he (j+1) (by simp;omega);simpa [qz,Nat.add_comm 1 j] using this) p y hn
theorem yDd {o:Oper} {a:Act} {w:World} {K b:Act→World→Prop} (h:o.wp P a w K (Exit.then b Q)):o.wp P a w K Q:=by
 unfold Oper.wp at *;generalize (execOp a.eval o).run P w=r at *;cases r with
 | ok n w' =>
   cases n <;> simp only [Oper.upon] at h ⊢ <;>
    first
     | exact h
     | exact Calls.mono h (fun e d c=>by cases e <;> first | exact c | skip)
 | halt x w'=>cases x <;> simp only [Oper.upon] at h ⊢ <;> exact h
theorem loud_walk {k:Nat} {o:Oper} {fuel:Nat} {l:Array Bool} {a:Act} {w:World} {c:Act→World→Prop} (h0:ops[k]? = some o) (f:Region.ready md ops l=[k]) (n:S w)
 (d:Region.wanted o (yielded ops a.tmps)=true)
 (h:∀K:Act→World→Prop,(∀a w,S w→c a w→K a w)→wpList P ops (Exit.then K Q) [o] a w) (g:∀a w,S w→c a w→wpAnyH P md ops Q S fuel (l.setIfInBounds k true) a w):wpAnyH P md ops Q S (fuel+1) l a w:=by
 refine wpAnyH_all f (by simp) (fun i j=>?_);obtain rfl:i=k:=by simpa using j
 have b:=h (fun a w=>S w∧wpAnyH P md ops Q S fuel (l.setIfInBounds i true) a w) (fun a w e m=>⟨e,g a w e m⟩);unfold wpOp;rw [h0];dsimp only;rw [Zg d];unfold wpList at b;rw [Zg d] at b;rcases b with b | b
 ·exact .inl (yDd b)
 ·exact .inr b
def yHw (P:Program) (ops:Array Oper) (S:World→Prop) (Q:Exit→Act→World→Prop):List Nat→List Oper→Act→World→Prop
 | [],l,a,w=>wpQuiet P ops (fun w'=>∃p:WIn S,w'=p.w) (fun a'=>Q .normal a' w) l a
 | n::ns,l,a,w=>wpQuiet P ops (fun w'=>∃p:WIn S,w'=p.w) (fun a'=>∀K:Act→World→Prop,(∀a w,S w→yHw P ops S Q ns (l.drop (n+1)) a w→K a w)→wpList P ops (Exit.then K Q) ((l.drop n).take 1) a' w) (l.take n) a
def yIu (ops:Array Oper) (k:Nat):Bool:=match ops[k]? with
 | some o=>o.guard.isNone
 | none=>false
def segB (md:Region.Mode) (ops:Array Oper):List Nat→Nat→Nat→Array Bool→Bool
 | [],m,k,l=>headB md ops m k l&&(Region.ready md ops (setN m k l)).isEmpty
 | n::ns,m,k,l=>decide (n<m)&&headB md ops n k l&&decide (Region.ready md ops (setN n k l)=[k+n])&&yIu ops (k+n)&&segB md ops ns (m-(n+1)) (k+n+1) ((setN n k l).setIfInBounds (k+n) true)
theorem yIv (i:Region.noSelect ops=true) (m:∀c a b w,Q (.panic c) a w→Q (.panic c) b w) :
 ∀(e:List Nat) (l:List Oper) (k:Nat) (d:Array Bool) (a:Act) (w:World),(∀j,l[j]? = ops[k+j]?)→segB md ops e l.length k d=true→S w→yHw P ops S Q e l a w→wpAnyH P md ops Q S l.length d a w
 | [],l,k,d,a,w,he,hB,hS,h=>by
   simp only [segB,ZU] at hB;unfold yHw at h;have:=yMn (fuel:=0) i m hS l k d a (fun j _=>he j) hB.1 h (fun b f=>wpAnyH_done (by simpa using hB.2) f 0);simpa using this
 | n::e,l,k,d,a,w,he,hB,hS,h=>by
   simp only [segB,ZU,ZX] at hB;obtain⟨⟨⟨⟨p,x⟩,y⟩,q⟩,z⟩:=hB;unfold yHw at h;have g:(l.take n).length=n:=(by simp;omega);have s:(l.drop (n+1)).length=l.length-(n+1):=(by simp);obtain⟨o,r⟩:∃o,l[n]? = some o:=⟨_,zF p⟩;have t:ops[k+n]? = some o:=(by rw [←he n];exact r);have A:(l.drop n).take 1=[o]:=by
    rw [qT p];have:l[n]=o:=(by rw [zF p] at r;exact zu r);simp [this]
   have B:∀b:Act,Region.wanted o (yielded ops b.tmps)=true:=fun b=>by
    unfold yIu at q;rw [t] at q;unfold Region.wanted;have:o.guard=none:=(by simpa using q);rw [this]
   have u:=yMn (Lq:=fun b=>∀K:Act→World→Prop,(∀a w,S w→yHw P ops S Q e (l.drop (n+1)) a w→K a w)→wpList P ops (Exit.then K Q) ((l.drop n).take 1) b w) (fuel:=(l.drop (n+1)).length+1) i m hS (l.take n) k d a
    (fun j v=>by rw [g] at v;rw [zv,Zg v];exact he j) (by rw [g];exact x) h (fun b f=>by
      rw [g];rw [A] at f;refine loud_walk t y hS (B b) f (fun C D E F=>?_);exact yIv i m e (l.drop (n+1)) (k+n+1) _ C D (fun j=>by rw [ZI,he];congr 1;omega) (by rw [s];exact z) E F)
   rw [g,s] at u;rw [show l.length=n+(l.length-(n+1)+1) by omega];exact u
theorem yKr {o:Oper} {a:Act} {w:World} {K:Act→World→Prop} {n r:Nat} (d:∀c,o.op≠.defer c) (h:o.wp P a w K Q):o.wpIn (Fence.wide.inRound r) n P a w K Q:=by
 unfold Oper.wpIn;refine⟨fun _ _=>trivial,?_⟩;rw [Oper.semAt_eq _ _ _ d];unfold Oper.wp at h;generalize (execOp a.eval o).run P w=x at *;cases x with
 | ok m w' =>
   cases m <;> simp only [Oper.upon] at h <;> simp only [Oper.uponIn]
   case value=>exact h
   case skip=>exact h
   case defer=>exact h
   case enter f args =>
    refine⟨(fun b=>by cases b),CallsIn.inRound r ((qG.2 h).mono fun e i g=>?_)⟩;cases e <;> exact g
   case row row args =>
    exact⟨(fun b=>by cases b),fun c cs _=>let ⟨v,w',r,s⟩:=h c cs;⟨v,w',r,stepsIn_wide.2 s⟩⟩
 | halt y w'=>cases y <;> simp only [Oper.upon] at h <;> simp only [Oper.uponIn] <;> exact h
theorem yC9 (d:∀(i:Nat) (o:Oper),ops[i]? = some o→∀c,o.op≠.defer c) (e:∀a w,¬ Q .outgrown a w) {n r:Nat} :
 ∀(fuel:Nat) (l:Array Bool) (a:Act) (w:World),wpAny P md ops Q fuel l a w→wpAnyIn (Fence.wide.inRound r) n P md ops Q fuel l a w
 | 0,l,a,w,h=>h
 | fuel+1,l,a,w,h=>by
   refine⟨h.1,fun i g=>?_⟩;have b:=h.2 i g;unfold wpOp at b;unfold wpOpIn;split
   ·rename_i f;rw [f] at b;exact yC9 d e fuel _ _ _ b
   ·rename_i o f;rw [f] at b;dsimp only at b;split
    ·rename_i hw;rw [Zg hw] at b;rcases b with b | ⟨_,j,w',k⟩
     ·exact yKr (d i o f) (Oper.wp_mono (fun a w m=>yC9 d e fuel _ _ _ m) b)
     ·exact qF k (e j w')
    ·rename_i hw;rw [Zf hw] at b;exact⟨fun _ _=>trivial,yC9 d e fuel _ _ _ b⟩
def nop (o:Oper):Oper:={ o with op:=.move (.const undef),dst:=none }
def yAz:List Oper→List Oper
 | []=>[]
 | [o]=>[nop o]
 | o::p::l=>o::yAz (p::l)
def yDx:List Oper→List Oper
 | []=>[]
 | [o]=>[o]
 | _::p::l=>yDx (p::l)
theorem yFj:∀(l:List Oper),l≠[]→∃h o,l=h++[o]∧yAz l=h++[nop o]∧yDx l=[o]
 | [],h=>qF rfl h
 | [o],_=>⟨[],o,rfl,rfl,rfl⟩
 | o::p::l,_=>by
   obtain⟨h,q,a,b,c⟩:=yFj (p::l) (by simp);exact⟨o::h,q,by rw [zo,←a],by rw [yAz,b];rfl,by rw [yDx,c]⟩
def lastB (md:Region.Mode) (ops:Array Oper) (n:Nat):Bool :=
 ((List.range n).all fun i=>match ops[n]? with
   | some o=>o.after.any fun e=>Region.binds md e&&e.on==i
   | none=>false) &&
 ((List.range (n+1)).all fun i=>match ops[i]? with
   | some o=>o.after.all fun e=>!Region.binds md e||decide (e.on<i)
   | none=>false) &&
 match ops[n]? with
  | some o=>o.guard.isNone&&o.dst.isNone
  | none=>false
theorem yJh (h:List Oper) (o:Oper) (i:Nat):(h++[nop o]).toArray[i]? = if i=h.length then some (nop o) else (h++[o]).toArray[i]?:=by
 by_cases e:i=h.length
 ·subst e;simp
 ·rw [Zf e];simp only [zC];rcases JP i h.length with a | a
  ·rw [zt a,zt a]
  ·rw [qD (by simp;omega),qD (by simp;omega)]
theorem yE6 (h:List Oper) (o:Oper) (L:Array Bool):Region.ready md (h++[nop o]).toArray L=Region.ready md (h++[o]).toArray L:=by
 unfold Region.ready;rw [show (h++[nop o]).toArray.size=(h++[o]).toArray.size by simp];refine List.filter_congr fun i a=>?_;rw [yJh];by_cases e:i=h.length
 ·subst e;rw [Zg rfl];simp only [zC,qo];rfl
 ·rw [Zf e]
theorem yNr (h:List Oper) (o:Oper) (b:o.dst=none) (a:Array Value):yielded (h++[nop o]).toArray a=yielded (h++[o]).toArray a:=by
 funext i;unfold yielded;rw [yJh];by_cases e:i=h.length
 ·subst e;rw [Zg rfl];simp only [zC,qo,Option.bind_some,b];rfl
 ·rw [Zf e]
theorem yPf {n:Nat} {L:Array Bool} (a:lastB md ops n=true) (p:ops.size=n+1) (q:L.size=n+1) (j:Region.ready md ops L=[]):∀i,i≤n→L.getD i true=true:=by
 intro i
 induction i using Nat.strongRecOn with
 | _ i ih =>
   intro r;by_cases b:L.getD i true=true
   ·exact b
   ·exfalso;have k:L.getD i true=false:=(by simpa using b);simp only [lastB,ZU,Zs,List.mem_range] at a;have c:=a.1.2 i (by omega);have d:i<ops.size:=(by omega);rw [qs d] at c;have f:i∈Region.ready md ops L:=mem_ready.2 ⟨k,ops[i],qs d,fun e l m=>by
     have g:=Array.all_eq_true'.1 c e l;rw [m] at g;have o:e.on<i:=(by simpa using g);have h:=ih e.on o (by omega);have:e.on<L.size:=(by omega);simp [this] at h ⊢;exact h⟩
    rw [j] at f;cases f
theorem nop_asks (o:Oper) (a:Act) (w:World):¬ (nop o).asks P a w:=by
 unfold Oper.asks;intro h;exact qF (show noRoomEvent∈(#[]:Array Event) from h.1) (by simp)
theorem nop_any (h:List Oper) (o:Oper) (g:lastB md (h++[o]).toArray h.length=true):∀(fuel:Nat) (L:Array Bool) (a:Act) (w:World),L.size=h.length+1→L.getD h.length true=false →
 wpAny P md (h++[nop o]).toArray (Exit.then (fun a w=>wpList P (h++[o]).toArray Q [o] a w) Q) fuel L a w→wpAny P md (h++[o]).toArray Q fuel L a w
 | 0,L,a,w,hL,hn,hh=>by
   have c:=hh.1;rw [yE6] at c;have:=yPf g (by simp) hL c h.length (zT _);rw [hn] at this;cases this
 | fuel+1,L,a,w,hL,hn,hh=>by
   have C:Region.ready md (h++[o]).toArray L≠[]:=fun c=>by
    have:=yPf g (by simp) hL c h.length (zT _);rw [hn] at this;cases this
   have q:=g;simp only [lastB,ZU,Zs,List.mem_range] at q;have x:=q.2;simp only [zC,qo,ZU,Option.isNone_iff_eq_none] at x;obtain⟨D,E⟩:=x;refine⟨fun c=>qF c C,fun i d=>?_⟩;have b:=hh.2 i (by rw [yE6];exact d);by_cases e:i=h.length
   ·subst e;have F:∀j,j<h.length→L.getD j false=true:=fun j r=>by
     have f:=q.1.1 j r;simp only [zC,qo] at f;obtain⟨e,G,s⟩:=Array.any_eq_true'.1 f;simp only [ZU,ZD] at s;obtain⟨_,H,k,I⟩:=mem_ready.1 d;simp only [zC,qo,Option.some.injEq] at k;subst k;have:=I e G s.1
     rwa [s.2] at this
    have t:Region.ready md (h++[o]).toArray (L.setIfInBounds h.length true)=[]:=by
     refine List.eq_nil_iff_forall_not_mem.2 fun j r=>?_;obtain⟨l,H,k,_⟩:=mem_ready.1 r;have O:j<h.length+1:=by
      have:=(zH.1 k).1;simpa using this
     by_cases z:h.length=j
     ·subst z;simp [hL] at l
     ·rw [getD_set_ne true z] at l;have:=F j (by omega);have J:j<L.size:=(by omega);simp [J] at l this;rw [l] at this;cases this
    unfold wpOp at b;rw [yJh,Zg rfl] at b;have K:∀y,Region.wanted (nop o) y=true:=fun y=>by
     unfold Region.wanted nop;rw [D]
    dsimp only at b;rw [Zg (K _)] at b;have f:wpAny P md (h++[nop o]).toArray (Exit.then (fun a w=>wpList P (h++[o]).toArray Q [o] a w) Q) fuel (L.setIfInBounds h.length true) a w:=by
     rcases b with b | b
     ·exact b
     ·exact qF b.1 (nop_asks o a w)
    have m:wpList P (h++[o]).toArray Q [o] a w:=by
     have A:=t;rw [←yE6] at A;cases fuel with
     | zero=>exact f.2
     | succ fuel=>exact f.1 A
    have B:∀a w,Q .normal a w→wpAny P md (h++[o]).toArray Q fuel (L.setIfInBounds h.length true) a w:=fun a w n=>by
     cases fuel with
     | zero=>exact⟨t,n⟩
     | succ fuel=>exact⟨fun _=>n,fun i d=>by rw [t] at d;cases d⟩
    unfold wpOp;simp only [zC,qo];unfold wpList at m;split at m
    ·rename_i hw;rw [Zg hw];exact m.imp (Oper.wp_mono (fun a w n=>B a w n)) id
    ·rename_i hw;rw [Zf hw];exact B _ _ m
   ·have M:(h++[nop o]).toArray[i]? = (h++[o]).toArray[i]?:=(by rw [yJh,Zf e]);unfold wpOp at b ⊢;rw [M] at b;have u:∀a w,wpAny P md (h++[nop o]).toArray (Exit.then (fun a w=>wpList P (h++[o]).toArray Q [o] a w) Q) fuel (L.setIfInBounds i true) a w→wpAny P md (h++[o]).toArray Q fuel (L.setIfInBounds i true) a w:=fun a w N =>
     nop_any h o g fuel _ a w (by simp [hL]) (by rw [getD_set_ne true e];exact hn) N
    split
    ·rename_i v;rw [v] at b;exact u _ _ b
    ·rename_i p v;rw [v] at b;dsimp only at b;rw [yNr h o E] at b;split
     ·rename_i hw;rw [Zg hw] at b;rcases b with b | b
      ·exact .inl (Oper.wp_mono u (yDd b))
      ·exact .inr b
     ·rename_i hw;rw [Zf hw] at b;exact u _ _ b
def yG7 (l:List Oper):Bool:=l.all fun o=>match o.op with | .defer _=>false | _=>true
theorem yCn {l:List Oper} (h:yG7 l=true) (i:Nat) (o:Oper) (a:l.toArray[i]? = some o):∀c,o.op≠.defer c:=by
 intro c b;have:=Zs.1 h o (zS (by simpa using a));rw [b] at this;cases this
theorem yEa {id:Nat} {a:Act} {w:World} {l:List Oper} (S:World→Prop) (b:List Nat) (d:P.follows .mixedOrders=true) (c:(Region.noSelect l.toArray&&segB .any l.toArray b l.length 0 (Array.replicate l.length false))=true)
 (e:S w.drew) (h:yHw P l.toArray S (NoPanic Q) b l a w.drew):(Code.region id l.toArray true).wp P Q a w:=by
 rw [ZU] at c;refine wp_region_noPanic (wp_region_any d (wpAny_of_held _ _ _ _ (?_:wpAnyH P .any l.toArray (NoPanic Q) S _ _ a w.drew)));have:=yIv (md:=.any) c.1 (fun _ _ _ _ h=>h) b l 0 _ a w.drew (fun j=>by simp) c.2 e h;simpa using this
theorem yHq {id n r:Nat} {a:Act} {w:World} {l:List Oper} (S:World→Prop) (d:List Nat) (e:P.follows .mixedOrders=true) (b:(yG7 l&&(Region.noSelect l.toArray&&segB .any l.toArray d l.length 0 (Array.replicate l.length false)))=true)
 (f:∀c a g w,Q (.panic c) a w→Q (.panic c) g w) (i:∀a w,¬ Q .outgrown a w) (k:S w.drew) (h:yHw P l.toArray S Q d l a w.drew):(Code.region id l.toArray true).wpIn (Fence.wide.inRound r) n P Q a w:=by
 rw [ZU,ZU] at b;refine wpIn_region_any e (yC9 (yCn b.1) i _ _ _ _ (wpAny_of_held _ _ _ _ (?_:wpAnyH P .any l.toArray Q S _ _ a w.drew)));have:=yIv (md:=.any) b.2.1 f d l 0 _ a w.drew (fun j=>by simp) b.2.2 k h;simpa using this
theorem yQi {id:Nat} {a:Act} {w:World} {l:List Oper} (S:World→Prop) (c:List Nat) (k:P.follows .mixedOrders=true)
 (d:(decide (0<l.length)&&lastB .any l.toArray (l.length-1)&&(Region.noSelect (yAz l).toArray&&segB .any (yAz l).toArray c l.length 0 (Array.replicate l.length false)))=true)
 (m:S w.drew) (h:yHw P (yAz l).toArray S (Exit.then (fun a w=>wpList P l.toArray (NoPanic Q) (yDx l) a w) (NoPanic Q)) c (yAz l) a w.drew):(Code.region id l.toArray true).wp P Q a w:=by
 simp only [ZU,ZX] at d;obtain⟨⟨h0,e⟩,f,g⟩:=d;obtain⟨b,o,n,i,p⟩:=yFj l (by intro hl;rw [hl] at h0;cases h0);rw [i,p] at h;rw [i] at f g;subst n;have q:(b++[o]).length-1=b.length:=by simp
 rw [q] at e;refine wp_region_noPanic (wp_region_any k (?_:wpAny P .any (b++[o]).toArray (NoPanic Q) _ _ a w.drew));refine nop_any b o e _ _ a _ (by simp) (by simp) (wpAny_of_held (S:=S) _ _ _ _ ?_);have:=yIv (md:=.any) f (fun _ _ _ _ h=>h) c (b++[nop o]) 0 _ a w.drew (fun j=>by simp) (by simpa using g) m h;simpa using this
theorem yv {id n r:Nat} {a:Act} {w:World} {l:List Oper} (e:P.follows .mixedOrders=true) (b:(yG7 l&&Region.lexB .any l.toArray)=true) (f:∀a w,¬ Q .outgrown a w)
 (h:wpQuiet P l.toArray (fun w'=>∃n,w'=w.drewN n) (fun c=>∀w',(∃n,w'=w.drewN n)→Q .normal c w') l a):(Code.region id l.toArray true).wpIn (Fence.wide.inRound r) n P Q a w:=by
 rw [ZU] at b;refine wpIn_region_any e (yC9 (yCn b.1) f _ _ _ _ (wpAny_of_quiet (C:=fun w'=>∃n,w'=w.drewN n) (Q:=fun c=>∀w',(∃n,w'=w.drewN n)→Q .normal c w') (fun _ w' g h=>h w' g) _ _ _ _ ⟨1,rfl⟩ ?_));have d:=b.2;simp only [Region.lexB,ZU] at d;have:=wpAnyQ_lex (C:=fun w'=>∃n,w'=w.drewN n) (md:=.any) d.1 l 0 (Array.replicate l.length false) a (by simp) (by simpa using d.2) h;simpa using this
end
end
section
open Go.RowKit Go.Proofs Go.Shelf
attribute [local go_sem] qV
theorem Tryz.extra105:Builder.Extra Tryz.prog Tryz.lays105_ren where
 sizeBuilder:=by kernel_rfl
 liesBuilder:=by kernel_rfl
 t5:=Tryz.underlying5
 a5:=Tryz.isAgg5
 z5:=Tryz.sizeOf5
 v5:=Tryz.zeroValue5
 infoByte:=by kernel_rfl
 cellsByte:=by kernel_rfl
 sizeByte:=by kernel_rfl
 neB5:=by decide
def spaces (n:Nat):ByteArray:=⟨(Lib.repeatL [32] n).toArray⟩
theorem spaces_any (n:Nat) (a:n≤100) (w:World):Calls Tryz.prog 172 #[.string ⟨#[32]⟩,n] w fun e w'=>e=.returned (.string (spaces n))∧Below w w w':=by
 have:=Any.strings_Repeat Tryz.lays105 Tryz.extra105 ⟨#[32]⟩ n w (by omega) (by show 1*n≤_;omega);exact this
theorem yQ4 (a c:Int):0≤yLs a c∧yLs a c≤16:=by
 unfold yLs;split
 ·omega
 ·have d:=Int.emod_nonneg (max a 0) (b:=c) (by omega);have e:=Int.emod_lt_of_pos (max a 0) (b:=c) (by omega);omega
def toldB (x:Int):Bool:=(decide (128≤x)&&decide (x≤159))||(decide (x=8232)||decide (x=8233)||(decide (yDn x=1)&&!yB7 x))
def oneI (c:ByteArray) (rs:List Int) (col tab:Int) (wide raw:Bool):ByteArray × Int :=
 if yH rs 0=9 then (spaces (yLs col tab).toNat,yLs col tab)
 else if yH rs 0=10∨yH rs 1=10 then (⟨#[]⟩,0)
 else if yH rs 0<32∨yH rs 0=127 then (⟨#[94]⟩++runesBytes [bits BinOp.xor IntKind.i32 (yH rs 0) 64],2)
 else if toldB (yH rs 0)=true then (if raw=true then (yD8 (yH rs 0).toNat,((yD8 (yH rs 0).toNat).size:Int)) else (⟨#[]⟩,0))
 else if yDn (yH rs 0)=2∨yB7 (yH rs 0)=true then (⟨#[226,151,140]⟩++runesBytes (rs.take 31),1)
 else if (yA9 (yH rs 0)=true∧yA9 (yH rs 1)=true)∨(yDn (yH rs 0)=7∧yHr (yH rs 0) wide=1∧yH rs 1=65039) then (c,2)
 else if yHr (yH rs 0) wide=0 then (⟨#[]⟩,0) else (c,yHr (yH rs 0) wide)
theorem flag_any (r:Int) (w:World):Calls Tryz.prog 174 #[.int .i32 r] w fun e w'=>e=.returned (.bool (yA9 r))∧w=w':=by
 go_enter Tryz.func174,Tryz.ntmps174;go_wp2
 all_goals (go_ret;refine⟨yAk ?_,rfl⟩;unfold yA9;rw [ZY];simp;try omega)
theorem conv_one (W:World) (v:Int):(convert 121 9 (.slice (some ⟨W,0,none⟩) 1 1)).run Tryz.prog (W.alloc (.cells #[.int .i32 v] 21))=.ok (.string (runesBytes [v])) (W.alloc (.cells #[.int .i32 v] 21)):=by
 have h:=run_convert_runes (P:=Tryz.prog) (W.alloc (.cells #[.int .i32 v] 21)) 121 9 21 ⟨W,0,none⟩ 1 1 [v] (zT _) Tryz.underlying121 Tryz.underlying21 Tryz.underlying9 (fun j a=>by
  obtain rfl:j=0:=(by simpa using a);exact World.cell?_alloc_mark W #[.int .i32 v] 21 (0,0) 0)
 exact h
theorem addr_add (b a j:Nat):(⟨b,a,none⟩:Addr).add j=⟨b,a+j,none⟩:=by
 unfold Addr.add;split
 ·rename_i h;rw [h];rfl
 ·rfl
theorem two_ret {S T:ByteArray} {m k:Int} (h:(S,m)=(T,k)):Ending.returned (.tuple #[S,m])=.returned (.tuple #[T,k]):=by
 cases h;rfl
theorem one_any (c:ByteArray) (m:List Int) (n cap b H:Nat) (hn:m.length=n) (c5:0<n) (d0:n≤cap) (hz:n≤4294967296) (E r O:Int) (A Q t:Bool) (w:World)
 (hr:Rd .i32 w (some ⟨b,H,none⟩) m) (hx:0≤yH m 0∧yH m 0<2147483648) (V:DB w) :
 Calls Tryz.prog 131 #[c,.slice (some ⟨b,H,none⟩) n cap,E,yEq r O A Q t] w fun e w' =>
  e=.returned (.tuple #[.string (oneI c m E r A t).1,.int .i64 (oneI c m E r A t).2])∧Below w w w':=by
 obtain⟨p,d⟩:=nm (oneI c m E r A t);rw [d];have c6:b<w.heap.size∧∀i,i<n→w.cell? ⟨b,H+i,none⟩=some (.int .i32 (yH m i)):=by
  rcases hr with h | ⟨b',d3,h1,h2,h3⟩
  ·subst h;simp at hn;omega
  ·cases h1;rw [hn] at h3;exact⟨h2,h3⟩
 obtain⟨a0,hc⟩:=c6;have a1:=hc 0 c5;rw [Zl] at a1;unfold oneI at d;obtain⟨x,a9⟩:=nm (yH m 0);obtain⟨y,a2⟩:=nm (yH m 1);have b4:¬ 1<n→y=0:=fun h=>by
  rw [←a2];unfold yH;rw [zI,qD (by omega)];rfl
 have b5:1<n→w.cell? ⟨b,H+1,none⟩=some (.int .i32 y):=fun h=>by rw [hc 1 h,a2]
 rw [a9] at a1 hx;rw [a9,a2] at d;have I:=lh d;have HC:=lh hc;have HD:=lh (fun (W:World) (B:Below w w W)=>V.below B);clear hr V d hc a9 a2;go_enter Tryz.func131,Tryz.ntmps131;go_upto_region 1 with fail;have a3:=qal w (.cells #[r,A,.int .i8 O,Q,t] 26);have hL:(w.alloc (.cells #[r,A,.int .i8 O,Q,t] 26)).heap[w.heap.size]? = some (.cells #[r,A,.int .i8 O,Q,t] 26 (0,0)):=zL w _;generalize w.alloc _=W1 at a3 hL ⊢;have a:=a3;obtain⟨k0,g,J,k3,l⟩:=qc5 hL;have e0:=yB a3 a0 a1;have e1:=fun h=>yB a3 a0 (b5 h);have gn:(0:Int)<(n:Int):=by omega
 clear hL a1 b5;go_upto_if 21 with fail;go_cut [11] (fun v M=>v=.int .i32 y∧M=W1)
 case first =>
  by_cases h1:1<n
  ·have g1:(n:Int) > 1:=(by omega);have g2:(1:Int)<(n:Int):=(by omega);have e1:=e1 h1;go_wp2;go_meet;exact⟨by first | rfl | simp,rfl⟩
  ·have g1:¬ (n:Int) > 1:=(by omega);go_wp2;go_meet;have hy:=b4 h1;subst hy;exact⟨by first | rfl | simp,rfl⟩
 case rest =>
  obtain⟨rfl,X⟩:=hcut;have b0:=X.symm;clear X;subst b0;clear e0 e1 b4;rename_i b6;refine b6 _ _ ?_;clear b6;by_cases Y:x=9
  ·subst Y;have d:=I.out;rw [Zg rfl] at d;obtain⟨k,hk⟩:∃k:Nat,yLs E r=k:=⟨(yLs E r).toNat,by have:=yQ4 E r;omega⟩;have d4:k≤16:=(by have:=yQ4 E r;omega);have HS:=lh (fun W=>stop_any E r O A Q t W);rw [hk] at HS;have HR:=lh (fun W=>spaces_any k (by omega) W);rw [hk,ZC] at d;clear I;go_wp2_with (first | (go_at_call 171;refine (HS.out _).mono ?_;rintro e w' ⟨rfl,f⟩;replace a:=a.trans (f.mono a.size);replace g:=yB f (yD g) g;replace l:=yB f (yD l) l) | (go_at_call 172;refine (HR.out _).mono ?_;rintro e w' ⟨rfl,f⟩;replace a:=a.trans (f.mono a.size);replace g:=yB f (yD g) g;replace l:=yB f (yD l) l))
   go_ret2
   rw [←d];exact⟨rfl,a⟩
  have n9:(x==9)=false:=(by simpa using Y);clear k0 J k3;by_cases a4:x=10
  ·subst a4;have d:=I.out;rw [Zf (by decide),Zg (.inl rfl)] at d;go_wp2
   go_ret2
   rw [←d];exact⟨rfl,a⟩
  have d5:(x==10)=false:=(by simpa using a4);by_cases a5:y=10
  ·subst a5;have d:=I.out;rw [Zf Y,Zg (.inr rfl)] at d;go_wp2
   go_ret2
   rw [←d];exact⟨rfl,a⟩
  have d6:(y==10)=false:=(by simpa using a5);by_cases R:x<32∨x=127
  ·have d:=I.out;rw [Zf Y,Zf (by rintro (h | h);exact a4 h;exact a5 h),Zg R] at d;have s:=conv_one W1 (bits BinOp.xor IntKind.i32 x 64);have F:=runesBytes_size_le [bits BinOp.xor IntKind.i32 x 64];generalize runesBytes [bits BinOp.xor IntKind.i32 x 64]=S at d s F;have a6:S.size≤4:=F;clear F;have b7:=a.alloc (a.size) (.cells #[.int .i32 (bits BinOp.xor IntKind.i32 x 64)] 21);clear I;rcases R with b8 | b1
   ·have gl:x<32:=b8;go_wp2
    go_ret2
    rw [←d];exact⟨rfl,b7⟩
   ·subst b1;go_wp2
    go_ret2
    rw [←d];exact⟨rfl,b7⟩
  have b8:¬ x<32:=fun h=>R (.inl h);have b1:¬ x=127:=fun h=>R (.inr h);have d7:(x==127)=false:=(by simpa using b1);obtain⟨o,C⟩:=nm (yDn x);have u:=lh (fun W=>yIk x W);rw [C] at u;have d:=I.out;rw [Zf Y,Zf (by rintro (h | h);exact a4 h;exact a5 h),Zf R,C] at d;have z:=lh d;clear d I R;by_cases V:128≤x∧x≤159
  ·have hT:toldB x=true:=(by unfold toldB;simp;omega);have d:=z.out;rw [Zg hT] at d;have D:Hid (∀W,Below w w W→Calls Tryz.prog 173 #[.int .i32 x] W fun e w'=>e=.returned (.string (yD8 x.toNat))∧Below W.heap.size W w'):=lh (fun W B=>by
    have:=yM0 x.toNat (by omega) W (HD.out W B)
    rwa [Int.toNat_of_nonneg hx.1] at this)
   generalize yD8 x.toNat=S at d D;obtain⟨d1,d2⟩:=V;clear z hT C;cases t with
   | true =>
     rw [Zg rfl] at d;go_wp2_with (first | (go_at_call 173;refine (D.out _ a).mono ?_;rintro e w' ⟨rfl,f⟩;replace a:=a.trans (f.mono a.size);replace g:=yB f (yD g) g;replace l:=yB f (yD l) l))
     go_ret2
     rw [←d];exact⟨rfl,a⟩
   | false =>
     rw [Zf (by decide)] at d;go_wp2_with (first | (go_at_call 173;refine (D.out _ a).mono ?_;rintro e w' ⟨rfl,f⟩;replace a:=a.trans (f.mono a.size);replace g:=yB f (yD g) g;replace l:=yB f (yD l) l))
     go_ret2
     rw [←d];exact⟨rfl,a⟩
  go_upto_region 10 with fail;go_cut [38] (fun v M=>v=.bool false∧M=W1)
  case first =>
   by_cases d1:128≤x
   ·have d2:¬ x≤159:=fun h=>V ⟨d1,h⟩;go_wp2;go_meet;exact⟨by first | rfl | simp,rfl⟩
   ·go_wp2;go_meet;exact⟨by first | rfl | simp,rfl⟩
  case rest =>
   obtain⟨rfl,X⟩:=hcut;have b0:=X.symm;clear X;subst b0;have b9:toldB x=(decide (x=8232)||decide (x=8233)||(decide (o=1)&&!yB7 x)):=by
    unfold toldB;rw [C,show (decide (128≤x)&&decide (x≤159))=false by rw [Bool.and_eq_false_iff];simp;omega,Bool.false_or]
   rw [b9] at z;clear b9;by_cases x2:x=8232∨x=8233
   ·have d:=z.out;rw [Zg (by rcases x2 with h | h <;> simp [h])] at d;have D:Hid (∀W,Below w w W→Calls Tryz.prog 173 #[.int .i32 x] W fun e w'=>e=.returned (.string (yD8 x.toNat))∧Below W.heap.size W w'):=lh (fun W B=>by
     have:=yM0 x.toNat (by omega) W (HD.out W B)
     rwa [Int.toNat_of_nonneg hx.1] at this)
    generalize yD8 x.toNat=S at d D;clear z C;rcases x2 with rfl | rfl
    rotate_left
    rotate_left
    all_goals
     skip
     cases t with
     | true =>
       rw [Zg rfl] at d;go_wp2_with (first | (go_at_call 173;refine (D.out _ a).mono ?_;rintro e w' ⟨rfl,f⟩;replace a:=a.trans (f.mono a.size);replace g:=yB f (yD g) g;replace l:=yB f (yD l) l))
       go_ret2
       rw [←d];exact⟨rfl,a⟩
     | false =>
       rw [Zf (by decide)] at d;go_wp2_with (first | (go_at_call 173;refine (D.out _ a).mono ?_;rintro e w' ⟨rfl,f⟩;replace a:=a.trans (f.mono a.size);replace g:=yB f (yD g) g;replace l:=yB f (yD l) l))
       go_ret2
       rw [←d];exact⟨rfl,a⟩
   have n2:x≠8232:=fun h=>x2 (.inl h);have n3:x≠8233:=fun h=>x2 (.inr h);have m2:(x==8232)=false:=(by simpa using n2);have m3:(x==8233)=false:=(by simpa using n3);by_cases T:x=8204∨x=8205
   ·have K:yB7 x=true:=(by unfold yB7;rcases T with h | h <;> simp [h]);have d:=z.out;rw [K,Zf (by simp [n2,n3]),Zg (.inr rfl)] at d;have F:=runesBytes_size_le (m.take 31);have s:∀W,Below w w W→(convert 121 9 (.slice (some ⟨b,H,none⟩) (min (n:Int) 31).toNat cap)).run Tryz.prog W=.ok (.string (runesBytes (m.take 31))) W:=fun W B=>by
     have h:=run_convert_runes (P:=Tryz.prog) W 121 9 21 ⟨b,H,none⟩ (min (n:Int) 31).toNat cap m (by omega) Tryz.underlying121 Tryz.underlying21 Tryz.underlying9 (fun j K=>by have h:=yB B a0 (HC.out j (by omega));rw [addr_add];exact h);rw [h]
     congr 3
     rw [←hn,List.take_eq_take_iff];omega
    have a6:(runesBytes (m.take 31)).size≤124:=(by rw [za] at F;omega);generalize runesBytes (m.take 31)=S at d s a6;have G:=lh s;clear s F K z;by_cases J:o=2
    ·subst J;clear C;rcases T with rfl | rfl
     rotate_left
     rotate_left
     all_goals
      skip
      go_upto_region 25 with (first | (go_at_call 119;refine (u.out _).mono ?_;rintro e w' ⟨rfl,f⟩;replace a:=a.trans (f.mono a.size);replace g:=yB f (yD g) g;replace l:=yB f (yD l) l));have s:=G.out _ a;clear G;have b2:min (n:Int) 31≤(cap:Int):=(by omega);have b3:(0:Int)≤min (n:Int) 31:=(by omega);go_wp2
      go_ret2
      rw [←d];exact⟨rfl,a⟩
    have c7:(o==2)=false:=(by simpa using J);by_cases U:o=1
    ·subst U;clear C;rcases T with rfl | rfl
     rotate_left
     rotate_left
     all_goals
      skip
      go_upto_region 25 with (first | (go_at_call 119;refine (u.out _).mono ?_;rintro e w' ⟨rfl,f⟩;replace a:=a.trans (f.mono a.size);replace g:=yB f (yD g) g;replace l:=yB f (yD l) l));have s:=G.out _ a;clear G;have b2:min (n:Int) 31≤(cap:Int):=(by omega);have b3:(0:Int)≤min (n:Int) 31:=(by omega);go_wp2
      go_ret2
      rw [←d];exact⟨rfl,a⟩
    have c8:(o==1)=false:=(by simpa using U);clear C;rcases T with rfl | rfl
    rotate_left
    rotate_left
    all_goals
     skip
     go_upto_region 25 with (first | (go_at_call 119;refine (u.out _).mono ?_;rintro e w' ⟨rfl,f⟩;replace a:=a.trans (f.mono a.size);replace g:=yB f (yD g) g;replace l:=yB f (yD l) l));have s:=G.out _ a;clear G;have b2:min (n:Int) 31≤(cap:Int):=(by omega);have b3:(0:Int)≤min (n:Int) 31:=(by omega);go_wp2
     go_ret2
     rw [←d];exact⟨rfl,a⟩
   have n4:x≠8204:=fun h=>T (.inl h);have n5:x≠8205:=fun h=>T (.inr h);have m4:(x==8204)=false:=(by simpa using n4);have m5:(x==8205)=false:=(by simpa using n5);have o4:(x != 8204)=true:=(by simpa using n4);have o5:(x != 8205)=true:=(by simpa using n5);have K:yB7 x=false:=(by unfold yB7;simp [n4,n5]);rw [K] at z;by_cases U:o=1
   ·subst U;have d:=z.out;rw [Zg (by simp)] at d;have D:Hid (∀W,Below w w W→Calls Tryz.prog 173 #[.int .i32 x] W fun e w'=>e=.returned (.string (yD8 x.toNat))∧Below W.heap.size W w'):=lh (fun W B=>by
     have:=yM0 x.toNat (by omega) W (HD.out W B)
     rwa [Int.toNat_of_nonneg hx.1] at this)
    generalize yD8 x.toNat=S at d D;clear z C;cases t with
    | true =>
      rw [Zg rfl] at d;go_wp2_with (first | (go_at_call 119;refine (u.out _).mono ?_;rintro e w' ⟨rfl,f⟩;replace a:=a.trans (f.mono a.size);replace g:=yB f (yD g) g;replace l:=yB f (yD l) l) | (go_at_call 173;refine (D.out _ a).mono ?_;rintro e w' ⟨rfl,f⟩;replace a:=a.trans (f.mono a.size);replace g:=yB f (yD g) g;replace l:=yB f (yD l) l))
      go_ret2
      rw [←d];exact⟨rfl,a⟩
    | false =>
      rw [Zf (by decide)] at d;go_wp2_with (first | (go_at_call 119;refine (u.out _).mono ?_;rintro e w' ⟨rfl,f⟩;replace a:=a.trans (f.mono a.size);replace g:=yB f (yD g) g;replace l:=yB f (yD l) l) | (go_at_call 173;refine (D.out _ a).mono ?_;rintro e w' ⟨rfl,f⟩;replace a:=a.trans (f.mono a.size);replace g:=yB f (yD g) g;replace l:=yB f (yD l) l))
      go_ret2
      rw [←d];exact⟨rfl,a⟩
   have c8:(o==1)=false:=(by simpa using U);have d:=z.out;rw [Zf (by simp [n2,n3,U])] at d;clear z;by_cases J:o=2
   ·subst J;rw [Zg (.inl rfl)] at d;have F:=runesBytes_size_le (m.take 31);have s:∀W,Below w w W→(convert 121 9 (.slice (some ⟨b,H,none⟩) (min (n:Int) 31).toNat cap)).run Tryz.prog W=.ok (.string (runesBytes (m.take 31))) W:=fun W B=>by
     have h:=run_convert_runes (P:=Tryz.prog) W 121 9 21 ⟨b,H,none⟩ (min (n:Int) 31).toNat cap m (by omega) Tryz.underlying121 Tryz.underlying21 Tryz.underlying9 (fun j K=>by have h:=yB B a0 (HC.out j (by omega));rw [addr_add];exact h);rw [h]
     congr 3
     rw [←hn,List.take_eq_take_iff];omega
    have a6:(runesBytes (m.take 31)).size≤124:=(by rw [za] at F;omega);generalize runesBytes (m.take 31)=S at d s a6;have G:=lh s;clear s F K C;go_upto_region 25 with (first | (go_at_call 119;refine (u.out _).mono ?_;rintro e w' ⟨rfl,f⟩;replace a:=a.trans (f.mono a.size);replace g:=yB f (yD g) g;replace l:=yB f (yD l) l));have s:=G.out _ a;clear G;have b2:min (n:Int) 31≤(cap:Int):=(by omega);have b3:(0:Int)≤min (n:Int) 31:=(by omega);go_wp2
    go_ret2
    rw [←d];exact⟨rfl,a⟩
   have c7:(o==2)=false:=(by simpa using J);rw [Zf (by rintro (h | h);exact J h;cases h)] at d;clear C K;obtain⟨L,c0⟩:=nm (yHr x A);have HW:=lh (fun W=>Wide_any x A W);rw [c0] at HW d;obtain⟨Z,a7⟩:=nm (yA9 x);obtain⟨ry,a8⟩:=nm (yA9 y);rw [a7,a8] at d;have c2:=lh a7;have c3:=lh a8;clear c0 a7 a8;have eq:(Z=true∧ry=true)=((Z&&ry)=true):=(by simp);simp only [eq] at d;have N:=lh d;clear d eq;go_upto_region 28 with (first | (go_at_call 119;refine (u.out _).mono ?_;rintro e w' ⟨rfl,f⟩;replace a:=a.trans (f.mono a.size);replace g:=yB f (yD g) g;replace l:=yB f (yD l) l) | (go_at_call 165;refine (HW.out _).mono ?_;rintro e w' ⟨rfl,f⟩;replace a:=a.trans (f.mono a.size);replace g:=yB f (yD g) g;replace l:=yB f (yD l) l));go_cut [99] (fun v M=>v=.bool (Z&&ry)∧Below w w M)
   case first =>
    clear N;have a7:=c2.out;have a8:=c3.out;cases Z <;> cases ry
    all_goals (go_wp2_with (first | (go_at_call 174;refine (flag_any _ _).mono ?_;rintro e w' ⟨rfl,c9⟩;subst c9)))
    all_goals go_meet
    all_goals exact⟨by first | rfl | simp,a⟩
   case rest =>
    obtain⟨rfl,a⟩:=hcut;have d:=N.out;generalize (Z&&ry)=q at d ⊢;clear N c2 c3;cases q with
    | true =>
      rw [Zg (.inl rfl)] at d;go_wp2
      go_ret2
      rw [←d];exact⟨rfl,a⟩
    | false =>
      have N:=lh d;clear d;go_upto_region 29 with fail;go_cut [99] (fun v M=>v=.bool (decide (o=7)&&decide (L=1)&&decide (y=65039))∧Below w w M)
      case first =>
       clear N;by_cases k7:o=7
       ·subst k7;by_cases w1:L=1
        ·subst w1;by_cases y6:y=65039
         ·subst y6;go_wp2_with (first | (go_at_call 119;refine (u.out _).mono ?_;rintro e w' ⟨rfl,f⟩;replace a:=a.trans (f.mono a.size)));go_meet;exact⟨by first | rfl | simp,a⟩
         ·have z6:(y==65039)=false:=(by simpa using y6);go_wp2_with (first | (go_at_call 119;refine (u.out _).mono ?_;rintro e w' ⟨rfl,f⟩;replace a:=a.trans (f.mono a.size)));go_meet;exact⟨by simp [y6],a⟩
        ·have z1:(L==1)=false:=(by simpa using w1);go_wp2_with (first | (go_at_call 119;refine (u.out _).mono ?_;rintro e w' ⟨rfl,f⟩;replace a:=a.trans (f.mono a.size)));go_meet;exact⟨by simp [w1],a⟩
       ·have z7:(o==7)=false:=(by simpa using k7);go_wp2_with (first | (go_at_call 119;refine (u.out _).mono ?_;rintro e w' ⟨rfl,f⟩;replace a:=a.trans (f.mono a.size)));go_meet;exact⟨by simp [k7],a⟩
      case rest =>
       obtain⟨rfl,a⟩:=hcut;have d:=N.out;have eq:(o=7∧L=1∧y=65039)=((decide (o=7)&&decide (L=1)&&decide (y=65039))=true):=(by simp [and_assoc]);simp only [eq] at d;generalize (decide (o=7)&&decide (L=1)&&decide (y=65039))=q at d ⊢;clear N eq;cases q with
       | true =>
         rw [Zg (.inr rfl)] at d;go_wp2
         go_ret2
         rw [←d];exact⟨rfl,a⟩
       | false =>
         rw [Zf (by simp)] at d;by_cases w0:L=0
         ·subst w0;rw [Zg rfl] at d;go_wp2
          go_ret2
          rw [←d];exact⟨rfl,a⟩
         ·have z0:(L==0)=false:=(by simpa using w0);rw [Zf w0] at d;go_wp2
          go_ret2
          rw [←d];exact⟨rfl,a⟩
end
section
open Go.Lib in
theorem decodeN_cut (n k a e f g b c d:Nat) (q:1≤k) (r:k≤n) (h:1<k→b=e) (i:2<k→c=f) (j:3<k→d=g) :
 decodeN k a b c d=if (decodeN n a e f g).2≤k then decodeN n a e f g else (65533,1):=by
 by_cases l:1<k
 ·obtain rfl:=h l;by_cases o:2<k
  ·obtain rfl:=i o;by_cases p:3<k
   ·obtain rfl:=j p;have:∀m:Nat,m ≥ 4→decodeN m a b c d=decodeN 4 a b c d:=fun m s=>by
     unfold decodeN;simp only [show (1<m)=True from by simp;omega,show (2<m)=True from by simp;omega,show (3<m)=True from by simp;omega];simp
    rw [this k (by omega),this n (by omega),Zg];unfold decodeN
    repeat' split
    all_goals (simp only;try omega)
   ·obtain rfl:k=3:=(by omega);unfold decodeN
    repeat' split
    all_goals first | rfl | (exfalso;simp_all;done) | (exfalso;simp_all;omega)
  ·obtain rfl:k=2:=(by omega);unfold decodeN
   repeat' split
   all_goals first | rfl | (exfalso;simp_all;done) | (exfalso;simp_all;omega)
 ·obtain rfl:k=1:=(by omega);unfold decodeN
  repeat' split
  all_goals first | rfl | (exfalso;simp_all;done) | (exfalso;simp_all;omega)
theorem yJm (t:ByteArray) (k j:Nat) (h:j<k) (b:k≤t.size):(t.extract 0 k).get! j=t.get! j:=by
 have a:j<(t.extract 0 k).size:=by simp [ZV];omega
 show (t.extract 0 k).data[j]! = t.data[j]!;rw [JW (t.extract 0 k).data j a,JW t.data j (show j<t.size by omega)];simp [qu]
theorem cut_dec (t:ByteArray) (k:Nat) (h0:0<k) (a:k≤t.size):Lib.decodeGo (t.extract 0 k)=if yAa t≤k then Lib.decodeGo t else (65533,1):=by
 have b:(t.extract 0 k).size=k:=by simp [ZV];omega
 have c:Lib.decodeGo (t.extract 0 k)=Utf8.decode (t.extract 0 k) 0:=by unfold Lib.decodeGo;rw [Zf (by omega)]
 have d:Lib.decodeGo t=Utf8.decode t 0:=by unfold Lib.decodeGo;rw [Zf (by omega)]
 unfold yAa;rw [c,d,JA,JA t,b,yJm t k 0 h0 a];exact decodeN_cut _ _ _ _ _ _ _ _ _ h0 (by omega) (fun h=>by rw [yJm t k _ h a]) (fun h=>by rw [yJm t k _ h a]) (fun h=>by rw [yJm t k _ h a])
theorem yA1 (t:ByteArray) (a b c d:Nat):(t.extract a b).extract c d=t.extract (a+c) (min (a+d) b):=by
 apply qq;simp [qu,Array.extract_extract]
theorem more_cut (x:Int) (t:ByteArray) (k:Nat) (p:k≤t.size):∀(f n:Nat) (z:Int) (a:Nat),a≤k→yFr x t f n z a≤k→yFr x (t.extract 0 k) f n z a=yFr x t f n z a
 | 0,_,_,_,_,_=>rfl
 | f+1,n,z,a,ha,h=>by
   have q:(t.extract 0 k).size=k:=(by simp [ZV];omega);obtain⟨u,i⟩:=nm (t.extract a t.size);have v:u.size=t.size-a:=(by rw [←i];exact yJ t a (by omega));have r:(t.extract 0 k).extract a k=u.extract 0 (k-a):=by
    rw [←i,yA1,yA1]
    congr 1 <;> omega
   rw [yFr,q,r];rw [yFr,i] at h ⊢;by_cases j:a=k
   ·rw [Zg (.inl j)];subst j;have s:=yGs u;split
    ·rfl
    ·rename_i c;rw [Zf c] at h;split
     ·rename_i b;rw [Zg b] at h;have:=yGi x t f (n+1) (yAh u) (a+yAa u) (by have:=yCo u;omega);by_cases e:a=t.size
      ·exact qF (.inl e) c
      ·have:=s (by omega);omega
     ·rfl
   ·have d:=cut_dec u (k-a) (by omega) (by omega);by_cases o:yAa u≤k-a
    ·rw [Zg o] at d;have l:yAh (u.extract 0 (k-a))=yAh u:=(by unfold yAh;rw [d]);have m:yAa (u.extract 0 (k-a))=yAa u:=(by unfold yAa;rw [d]);rw [l,m];by_cases g:yAh u=65533∧yAa u=1
     ·rw [Zg (.inr g),Zg (.inr g)]
     ·have c:¬ (a=t.size∨(yAh u=65533∧yAa u=1)):=(by rintro (e | e);omega;exact g e);rw [Zf c] at h ⊢;rw [Zf (by rintro (e | e);exact j e;exact g e)];by_cases b:goesOn x z (yAh u) n=true
      ·rw [Zg b] at h ⊢;rw [Zg b];exact more_cut x t k p f (n+1) _ _ (by omega) h
      ·rw [Zf b,Zf b]
    ·rw [Zf o] at d;have l:yAh (u.extract 0 (k-a))=65533:=(by unfold yAh;rw [d];rfl);have m:yAa (u.extract 0 (k-a))=1:=(by unfold yAa;rw [d]);rw [Zg (.inr ⟨l,m⟩)];split
     ·rfl
     ·rename_i c;rw [Zf c] at h;split
      ·rename_i b;rw [Zg b] at h;have:=yGi x t f (n+1) (yAh u) (a+yAa u) (by have:=yCo u;omega);omega
      ·rfl
theorem decR_13 (t:ByteArray) (h:yAh t=13):yAa t=1:=by
 unfold yAh Lib.decodeGo at h;unfold yAa Lib.decodeGo;split at h
 ·simp at h
 ·rename_i a;rw [Zf a];rw [JA] at h ⊢;unfold Lib.decodeN at h ⊢
  repeat' split at h
  all_goals first | (simp only at h;omega) | simp_all
theorem next_cut (t:ByteArray) (k:Nat) (b:k≤t.size) (h:nextI t≤k):nextI (t.extract 0 k)=nextI t:=by
 have f:(t.extract 0 k).size=k:=by simp [ZV];omega
 by_cases h0:t.size=0
 ·obtain rfl:k=0:=(by omega);unfold nextI;rw [Zg h0,Zg f]
 ·have o:=yY t (by omega);have d:=cut_dec t k (by omega) b;have p:yAa t≤nextI t:=by
   unfold nextI;rw [Zf h0];split
   ·split
    ·rename_i e;have:=decR_13 t e.1;omega
    ·omega
   ·exact (yGi _ t 31 1 _ _ (yCo t)).1
  rw [Zg (by omega)] at d;have i:yAh (t.extract 0 k)=yAh t:=(by unfold yAh;rw [d]);have j:yAa (t.extract 0 k)=yAa t:=(by unfold yAa;rw [d]);have l:¬ k=0:=(by omega);unfold nextI at h ⊢;rw [Zf h0] at h ⊢;rw [f,Zf l,i,j];by_cases c:(yAh t=65533∧yAa t=1)∨yP6 (yAh t)=true
  ·rw [Zg c] at h ⊢;rw [Zg c];by_cases a:yAh t=13∧1<t.size∧t.get! 1=10
   ·rw [Zg a] at h ⊢;rw [Zg ⟨a.1,by omega,by rw [yJm t k 1 (by omega) b];exact a.2.2⟩]
   ·rw [Zf a] at h ⊢;rw [Zf];rintro⟨m,n,g⟩;rw [yJm t k 1 n b] at g;exact a ⟨m,by omega,g⟩
  ·rw [Zf c] at h ⊢;rw [Zf c];exact more_cut _ t k b 31 1 _ _ (by have:=(yGi (yAh t) t 31 1 (yAh t) (yAa t) (yCo t)).1;omega) h
theorem yEw (s:ByteArray):∀(f g a:Nat),s.size≤a+f→s.size≤a+g→piecesF s f a=piecesF s g a
 | 0,g,a,h,_=>by
   cases g with
   | zero=>rfl
   | succ g=>rw [piecesF,piecesF,Zf (by omega)]
 | f+1,g,a,h,hg=>by
   cases g with
   | zero=>rw [piecesF,piecesF,Zf (by omega)]
   | succ g =>
     rw [piecesF,piecesF];split
     ·rename_i b;have:=yY (s.extract a s.size) (by rw [yJ s a (by omega)];omega);rw [yEw s f g _ (by omega) (by omega)]
     ·rfl
theorem yLg (s:ByteArray) (b:Nat) (c:b≤s.size):∀(f a:Nat),piecesF s f (b+a)=(piecesF (s.extract b s.size) f a).map fun p=>(b+p.1,p.2)
 | 0,_=>rfl
 | f+1,a=>by
   have d:=yJ s b c;have e:(s.extract b s.size).extract a (s.extract b s.size).size=s.extract (b+a) s.size:=by
    rw [yA1,d];congr 1;omega
   rw [piecesF,piecesF,e,d];by_cases g:b+a<s.size
   ·rw [Zg g,Zg (by omega),Zd];have h:=yY (s.extract (b+a) s.size) (by rw [yJ s (b+a) (by omega)];omega);rw [yJ s (b+a) (by omega)] at h;rw [qz,yLg s b c f,yA1,Nat.min_eq_left (by omega)]
   ·rw [Zf g,Zf (by omega),List.map_nil]
theorem yNc (s:ByteArray) (b:Nat) (a:b≤s.size):piecesF s s.size b=(yF (s.extract b s.size)).map fun p=>(b+p.1,p.2):=by
 have:=yLg s b a s.size 0;rw [Zl] at this;rw [this];unfold yF;rw [yEw (s.extract b s.size) s.size (s.extract b s.size).size 0 (by rw [yJ s b a];omega) (by omega)]
def yQ (s:ByteArray) (b k:Nat):Prop:=b≤s.size∧∃pre,yF s=pre++piecesF s s.size b∧pre.length=k
theorem yQ.zero (s:ByteArray):yQ s 0 0:=⟨zd _,[],rfl,rfl⟩
theorem yL (s:ByteArray) (b:Nat) (a:b<s.size):piecesF s s.size b=(b,s.extract b (b+nextI (s.extract b s.size)))::piecesF s s.size (b+nextI (s.extract b s.size)):=by
 obtain⟨f,d⟩:∃f,s.size=f+1:=⟨s.size-1,by omega⟩;have e:=yY (s.extract b s.size) (by rw [yJ s b (by omega)];omega);have c:piecesF s (f+1) b=(b,s.extract b (b+nextI (s.extract b s.size)))::piecesF s f (b+nextI (s.extract b s.size)):=by rw [piecesF,Zg a]
 rw [yEw s s.size (f+1) b (by omega) (by omega),c,yEw s f s.size _ (by omega) (by omega)]
theorem yd (s:ByteArray) (f:Nat):piecesF s f s.size=[]:=by
 cases f with
 | zero=>rfl
 | succ f=>rw [piecesF,Zf (Zh _)]
theorem yQ.next {s:ByteArray} {b k:Nat} (h:yQ s b k) (a:b<s.size):yQ s (b+nextI (s.extract b s.size)) (k+1):=by
 obtain⟨_,pre,c,d⟩:=h;have e:=yY (s.extract b s.size) (by rw [yJ s b (by omega)];omega);rw [yJ s b (by omega)] at e;refine⟨by omega,pre++[(b,s.extract b (b+nextI (s.extract b s.size)))],?_,by rw [zJ,d];rfl⟩;rw [c,yL s b a,zZ,ZN]
theorem yH8 (s:ByteArray) (e:Nat) (g:e≤s.size):∀(f a:Nat) (pre:List (Nat × ByteArray)),a≤e→e≤a+f→piecesF s s.size a=pre++piecesF s s.size e→(∀p∈pre,p.1<e)→piecesF (s.extract 0 e) f a=pre
 | 0,a,pre,ha,hf,h,hlt=>by
   obtain rfl:a=e:=(by omega);have:=Zb List.length h;rw [zJ] at this;rw [piecesF];exact (qL (by omega)).symm
 | f+1,a,pre,ha,hf,h,hlt=>by
   have i:(s.extract 0 e).size=e:=(by simp [ZV];omega);rw [piecesF,i];by_cases j:a=e
   ·subst j;have:=Zb List.length h;rw [zJ] at this;rw [Zf (Zh _)];exact (qL (by omega)).symm
   ·rw [Zg (by omega)];rw [yL s a (by omega)] at h;have k:=yY (s.extract a s.size) (by rw [yJ s a (by omega)];omega);rw [yJ s a (by omega)] at k;cases pre with
    | nil =>
      exfalso;rw [zp] at h;by_cases b:e=s.size
      ·rw [b,yd] at h;cases h
      ·rw [yL s e (by omega)] at h;have:=Zb (fun l=>(l.head?.map (·.1))) h;simp at this;omega
    | cons p t =>
      rw [zo] at h;obtain⟨rfl,c⟩:=List.cons.inj h;clear h;have h:=c;clear c;have d:a+nextI (s.extract a s.size)≤e:=by
       by_cases m:a+nextI (s.extract a s.size)<s.size
       ·rw [yL s _ m] at h;cases t with
        | nil =>
          rw [zp] at h;by_cases b:e=s.size
          ·omega
          ·rw [yL s e (by omega)] at h;have:=Zb (fun l=>(l.head?.map (·.1))) h;simp at this;omega
        | cons q t =>
          rw [zo] at h;obtain⟨n,_⟩:=List.cons.inj h;subst n;have:=hlt (a+nextI (s.extract a s.size),s.extract (a+nextI (s.extract a s.size)) (a+nextI (s.extract a s.size)+nextI (s.extract (a+nextI (s.extract a s.size)) s.size))) (by simp);simp at this;omega
       ·have o:a+nextI (s.extract a s.size)=s.size:=(by omega);rw [o,yd] at h;by_cases b:e=s.size
        ·omega
        ·rw [yL s e (by omega)] at h;have:=Zb List.length h;simp at this
      have r:(s.extract 0 e).extract a e=(s.extract a s.size).extract 0 (e-a):=by
       rw [yA1,yA1];congr 1 <;> omega
      rw [r,next_cut _ _ (by rw [yJ s a (by omega)];omega) (by omega),yA1,Za,Za,Nat.min_eq_left d];rw [yH8 s e g f _ t d (by omega) h (fun p u=>hlt p (zc _ u))]
end
section
def yA5 (s:ByteArray):Nat→Nat→List Int
 | 0,_=>[]
 | f+1,i=>if i<s.size then ((Utf8.decode s i).1:Int)::yA5 s f (i+(Utf8.decode s i).2) else []
def yE (s:ByteArray):List Int:=yA5 s s.size 0
def textD (d:ByteArray) (col tab:Int) (wide raw:Bool):ByteArray × Int :=
 if d.size=0 then (⟨#[]⟩,0)
 else if yAh d=65533∧yAa d=1 then (⟨#[60]⟩++strOfNums [yMx ((d.get! 0).toNat / 16),yMx ((d.get! 0).toNat % 16)]++⟨#[62]⟩,4)
 else oneI d (yE d) col tab wide raw
def yx (c:ByteArray) (col tab:Int) (wide raw:Bool):ByteArray × Int:=textD (c.extract 0 (nextI c)) col tab wide raw
theorem tab_mem:∀(T:List (Int × Int)) (r:Int),T≠[]→∃x∈T,yBh T r=x.2
 | [],_,h=>qF rfl h
 | [x],_,_=>⟨x,by simp,rfl⟩
 | x::y::rest,r,_=>by
   rw [yBh];split
   ·exact⟨x,by simp,rfl⟩
   ·obtain⟨z,a,e⟩:=tab_mem (y::rest) r (by simp);exact⟨z,zc _ a,e⟩
theorem widths_nn:yA0.all (fun x=>decide (0≤x.2))=true:=by decide +kernel
theorem wideI_bd (r:Int) (b:Bool):0≤yHr r b∧yHr r b≤2:=by
 obtain⟨x,a,e⟩:=tab_mem yA0 (yAv r) (by decide);have:=Zs.1 widths_nn x a;simp at this;unfold yHr;rw [e];split
 ·omega
 ·split <;> omega
theorem padF_size:∀(f:Nat) (s:ByteArray),s.size≤17→(yPt f s).size≤17
 | 0,s,h=>h
 | f+1,s,h=>by
   rw [yPt];split
   ·refine padF_size f _ ?_;rw [qj];show 1+s.size≤17;omega
   ·exact h
theorem namedS_size (x:Nat):(yD8 x).size≤19:=by
 have a:(strOfNums (yN4 x)).size≤17:=by
  rw [yFn];have:=yO4 16 x [];simpa [yN4] using this
 have:=padF_size 4 _ a;unfold yD8;rw [qj,qj];show 1+(yPt 4 (strOfNums (yN4 x))).size+1≤19;omega
theorem oneI_bd (c:ByteArray) (a:List Int) (b d:Int) (e f:Bool):0≤(oneI c a b d e f).2∧(oneI c a b d e f).2≤19:=by
 have g:=yQ4 b d;have h:=wideI_bd (yH a 0) e;have i:=namedS_size (yH a 0).toNat;unfold oneI
 repeat' split
 all_goals (dsimp only;omega)
theorem yGj (c:ByteArray) (a b:Int) (d e:Bool):0≤(yx c a b d e).2∧(yx c a b d e).2≤19:=by
 unfold yx textD;split
 ·exact⟨Zr _,by show (0:Int)≤19;omega⟩
 split
 ·exact⟨by show (0:Int)≤4;omega,by show (4:Int)≤19;omega⟩
 ·exact oneI_bd _ _ _ _ _ _
def yKg (c:ByteArray):Bool:=(!decide (yAh c=65533)||decide (1<yAa c))&&decide (yEn (yAh c)=1)
def yCd:List (Nat × ByteArray)→List Int→Option Nat
 | p::t,k::ks=>if k=2 then some p.1 else yCd t ks
 | _,_=>none
def yBz (s:ByteArray):Option Nat:=yCd (yF s) (ye s)
def yU (s:ByteArray):ByteArray:=match yBz s with
 | some e=>s.extract 0 e
 | none=>s
structure Fl where
 a:Nat
 n:Nat
 wide:Int
 ma:Nat
 mn:Nat
 mw:Int
 hangs:Bool
 c:Int
structure Rul where
 wh:List Int
 w:Int
 tab:Int
 wideA:Bool
 raw:Bool
def adv (wh:List Int) (x:Nat) (s:Fl):Fl :=
 ⟨s.a+x,s.n+1,s.wide+s.c,if yH wh s.n=1 then s.a+x else s.ma,if yH wh s.n=1 then s.n+1 else s.mn,if yH wh s.n=1 then s.wide+s.c else s.mw,s.hangs,s.c⟩
def yFz (r:Rul) (s:Fl) (x:ByteArray):Fl × Bool :=
 if yKg x=true∧(s.hangs=true∨r.w<s.wide+(yx x s.wide r.tab r.wideA r.raw).2) then (adv r.wh x.size { s with hangs:=true,c:=0 },false)
 else if s.hangs=true∨r.w<s.wide+(yx x s.wide r.tab r.wideA r.raw).2 then ({ s with c:=(yx x s.wide r.tab r.wideA r.raw).2 },true)
 else (adv r.wh x.size { s with c:=(yx x s.wide r.tab r.wideA r.raw).2 },false)
def yAg (r:Rul):List ByteArray→Fl→Fl × Bool
 | [],s=>(s,false)
 | x::t,s=>if (yFz r s x).2=true then ((yFz r s x).1,true) else yAg r t (yFz r s x).1
def yBc (e:Bool):Int:=if e=true then 1 else 0
def fl0 (a n:Nat):Fl:=⟨a,n,0,a,n,0,false,0⟩
def yX (r:Rul) (text:ByteArray) (e:Bool) (a n:Nat):Nat × Nat × Int × Int :=
 match yAg r ((yF (text.extract a text.size)).map (·.2)) (fl0 a n) with
 | (s,false)=>(s.a,s.n,s.wide,yBc e)
 | (s,true) =>
   if a<s.ma then (s.ma,s.mn,s.mw,2)
   else if a<s.a then (s.a,s.n,s.wide,3)
   else (s.a+nextI (text.extract s.a text.size),s.n+1,s.c,if s.a+nextI (text.extract s.a text.size)=text.size then yBc e else 3)
def yAm (r:Rul) (text:ByteArray) (e:Bool):Nat→Nat→Nat→List (Nat × Nat × Int × Int)
 | 0,_,_=>[]
 | f+1,a,n =>
   (a,(yX r text e a n).1-a,(yX r text e a n).2.2.1,(yX r text e a n).2.2.2) ::
     if (yX r text e a n).2.2.2=2∨(yX r text e a n).2.2.2=3 then yAm r text e f (yX r text e a n).1 (yX r text e a n).2.1 else []
theorem yFp (T:ByteArray) (a:Nat) (b:a≤T.size):(yF (T.extract a T.size)).map (·.2)=(piecesF T T.size a).map (·.2):=by
 rw [yNc T a b,zx];rfl
theorem yMj (r:Rul) (T:ByteArray) (a:Nat):∀(L:List ByteArray) (s:Fl),(piecesF T T.size s.a).map (·.2)=L→yQ T s.a s.n→yQ T s.ma s.mn→a≤s.a→a≤s.ma→s.ma≤s.a →
 ∃b d,yAg r L s=(b,d)∧yQ T b.a b.n∧yQ T b.ma b.mn∧a≤b.a∧a≤b.ma∧b.ma≤b.a∧(d=true→b.a<T.size)∧(d=false→b.a=T.size)
 | [],s,h,h1,h2,h3,h4,h5=>by
   refine⟨s,false,rfl,h1,h2,h3,h4,h5,(fun h=>by cases h),(fun _=>?_)⟩;have:=h1.1;by_cases e:s.a<T.size
   ·rw [yL T s.a e] at h;cases h
   ·omega
 | x::t,s,h,h1,h2,h3,h4,h5=>by
   have f:s.a<T.size:=by
    have:=h1.1;by_cases e:s.a<T.size
    ·exact e
    ·have:s.a=T.size:=(by omega);rw [this,yd] at h;cases h
   rw [yL T s.a f,Zd] at h;obtain⟨p,q⟩:=List.cons.inj h;have u:=yY (T.extract s.a T.size) (by rw [yJ T s.a (by omega)];omega);rw [yJ T s.a (by omega)] at u;have g:x.size=nextI (T.extract s.a T.size):=(by rw [←p];simp [ZV];omega);have j:=h1.next f;have k:∀c:Fl,c.a=s.a→c.n=s.n→c.ma=s.ma→c.mn=s.mn→∃b d,yAg r t (adv r.wh x.size c)=(b,d)∧yQ T b.a b.n∧yQ T b.ma b.mn∧a≤b.a∧a≤b.ma∧b.ma≤b.a∧(d=true→b.a<T.size)∧(d=false→b.a=T.size):=by
    intro c i l v y;refine yMj r T a t _ ?_ ?_ ?_ ?_ ?_ ?_
    ·show (piecesF T T.size (c.a+x.size)).map (·.2)=t;rw [i,g];exact q
    ·show yQ T (c.a+x.size) (c.n+1);rw [i,l,g];exact j
    ·show yQ T (if yH r.wh c.n=1 then c.a+x.size else c.ma) (if yH r.wh c.n=1 then c.n+1 else c.mn);split
     ·rw [i,l,g];exact j
     ·rw [v,y];exact h2
    ·show a≤c.a+x.size;omega
    ·show a≤(if yH r.wh c.n=1 then c.a+x.size else c.ma);split <;> omega
    ·show (if yH r.wh c.n=1 then c.a+x.size else c.ma)≤c.a+x.size;split <;> omega
   rw [yAg];unfold yFz;by_cases m:yKg x=true∧(s.hangs=true∨r.w<s.wide+(yx x s.wide r.tab r.wideA r.raw).2)
   ·rw [Zg m,Zf (by simp)];exact k _ rfl rfl rfl rfl
   ·rw [Zf m];by_cases o:s.hangs=true∨r.w<s.wide+(yx x s.wide r.tab r.wideA r.raw).2
    ·rw [Zg o,Zg rfl];exact⟨_,true,rfl,h1,h2,h3,h4,h5,fun _=>f,fun h=>by cases h⟩
    ·rw [Zf o,Zf (by simp)];exact k _ rfl rfl rfl rfl
theorem yI8 (r:Rul) (T:ByteArray) (e:Bool) (a n:Nat) (h:yQ T a n) :
 yQ T (yX r T e a n).1 (yX r T e a n).2.1∧a≤(yX r T e a n).1 ∧
 (((yX r T e a n).2.2.2=2∨(yX r T e a n).2.2.2=3)→a<(yX r T e a n).1∧(yX r T e a n).1<T.size) ∧
 (¬ ((yX r T e a n).2.2.2=2∨(yX r T e a n).2.2.2=3)→(yX r T e a n).1=T.size∧(yX r T e a n).2.2.2=yBc e):=by
 have d:yBc e≠2∧yBc e≠3:=by unfold yBc;split <;> constructor <;> decide
 obtain⟨b,m,k,g,o,l,p,t,f,q⟩:=yMj r T a _ (fl0 a n) rfl h h (zT _) (zT _) (zT _);rw [show (fl0 a n).a=a from rfl,←yFp T a h.1] at k;unfold yX;rw [k];cases m with
 | false =>
   refine⟨g,l,fun h=>?_,fun _=>⟨q rfl,rfl⟩⟩;rcases h with h | h
   ·exact qF h d.1
   ·exact qF h d.2
 | true =>
   have f:=f rfl;dsimp only;by_cases i:a<b.ma
   ·rw [Zg i];exact⟨o,p,fun _=>⟨i,by show b.ma<T.size;omega⟩,fun h=>qF (.inl rfl) h⟩
   ·rw [Zf i];by_cases j:a<b.a
    ·rw [Zg j];exact⟨g,l,fun _=>⟨j,f⟩,fun h=>qF (.inr rfl) h⟩
    ·rw [Zf j];have s:=yY (T.extract b.a T.size) (by rw [yJ T b.a (by omega)];omega);rw [yJ T b.a (by omega)] at s;refine⟨g.next f,by show a≤b.a+_;omega,fun h=>?_,fun h=>?_⟩
     ·by_cases c:b.a+nextI (T.extract b.a T.size)=T.size
      ·dsimp only at h;rw [Zg c] at h;rcases h with h | h
       ·exact qF h d.1
       ·exact qF h d.2
      ·exact⟨by show a<b.a+_;omega,by show b.a+_<T.size;omega⟩
     ·by_cases c:b.a+nextI (T.extract b.a T.size)=T.size
      ·exact⟨c,by show (if _ then _ else _)=_;rw [Zg c]⟩
      ·dsimp only at h;rw [Zf c] at h;exact qF (.inr rfl) h
theorem yF0 (s:ByteArray):∀(pre:List (Nat × ByteArray)) (a:Nat) (p:Nat × ByteArray) (b:List (Nat × ByteArray)),a≤s.size→piecesF s s.size a=pre++p::b→piecesF s s.size p.1=p::b∧a≤p.1∧p.1<s.size∧∀q∈pre,q.1<p.1
 | [],a,p,b,ha,h=>by
   have d:a<s.size:=by
    by_cases e:a<s.size
    ·exact e
    ·have:a=s.size:=(by omega);rw [this,yd] at h;cases h
   have h0:=h;rw [yL s a d] at h;obtain⟨c,_⟩:=List.cons.inj h;subst c;exact⟨h0,zT _,d,fun q c=>by cases c⟩
 | q::pre,a,p,b,ha,h=>by
   have d:a<s.size:=by
    by_cases e:a<s.size
    ·exact e
    ·have:a=s.size:=(by omega);rw [this,yd] at h;cases h
   rw [yL s a d,zo] at h;obtain⟨c,g⟩:=List.cons.inj h;have i:=yY (s.extract a s.size) (by rw [yJ s a (by omega)];omega);rw [yJ s a (by omega)] at i;obtain⟨j,m,k,l⟩:=yF0 s pre _ p b (by omega) g;refine⟨j,by omega,k,fun x f=>?_⟩;rcases zX.1 f with rfl | f
   ·rw [←c];show a<p.1;omega
   ·exact l x f
theorem yIr:∀(L:List (Nat × ByteArray)) (ks:List Int) (e:Nat),yCd L ks=some e→∃pre p a,L=pre++p::a∧p.1=e∧yH ks pre.length=2
 | [],ks,e,h=>by cases ks <;> simp [yCd] at h
 | p::t,[],e,h=>by simp [yCd] at h
 | p::t,k::ks,e,h=>by
   rw [yCd] at h;by_cases b:k=2
   ·rw [Zg b] at h;exact⟨[],p,t,rfl,by simpa using h,b⟩
   ·rw [Zf b] at h;obtain⟨pre,q,a,c,d,f⟩:=yIr t ks e h;exact⟨p::pre,q,a,by rw [c];rfl,d,f⟩
theorem yCz (s:ByteArray):(yU s).size≤s.size∧∃a,yF s=yF (yU s)++a:=by
 unfold yU;cases h:yBz s with
 | none=>exact⟨zT _,[],by simp⟩
 | some e =>
   dsimp only;obtain⟨pre,p,a,b,f,_⟩:=yIr _ _ _ h;obtain⟨c,_,g,d⟩:=yF0 s pre 0 p a (zd _) b;rw [f] at c g d;have i:(s.extract 0 e).size=e:=(by simp [ZV];omega);refine⟨by omega,p::a,?_⟩;rw [b]
   congr 1
   unfold yF;rw [i];exact (yH8 s e (by omega) e 0 pre (zd _) (by omega) (by rw [c];exact b) d).symm
theorem yFg (s:ByteArray):(ye s).length=(yF s).length:=by
 rw [yP3];cases h:yF s with
 | nil=>rfl
 | cons p t=>rw [Zd,yIs,yGv,zK,zb]
theorem yQ.len {s:ByteArray} {b k:Nat} (h:yQ s b k):k+(yF (s.extract b s.size)).length=(yF s).length:=by
 obtain⟨a,pre,c,d⟩:=h;have:=Zb List.length (yFp s b a);rw [zK,zK] at this;rw [c,zJ,this];omega
theorem textOf_len (s:ByteArray):(yF (yU s)).length≤(ye s).length:=by
 obtain⟨_,a,h⟩:=yCz s;rw [yFg,h,zJ];omega
end
section
open Go.RowKit Go.Proofs Go.Shelf
attribute [local go_sem] qV
theorem yHn (s:ByteArray):∀(f i:Nat) (a:Array Value),Conv.runesFrom s f i a=a++((yA5 s f i).map (Value.int .i32)).toArray
 | 0,i,a=>by simp [Conv.runesFrom,yA5]
 | f+1,i,a=>by
   rw [Conv.runesFrom,yA5];split
   ·show Conv.runesFrom s f (i+(Utf8.decode s i).2) (a.push (.int .i32 ((Utf8.decode s i).1:Int)))=_;rw [yHn s f,Zd];simp
   ·simp
theorem yD3 (s:ByteArray):∀(f i:Nat),(yA5 s f i).length≤f
 | 0,i=>zT _
 | f+1,i=>by
   rw [yA5];split
   ·rw [zb];exact Nat.succ_le_succ (yD3 s f _)
   ·exact zd _
theorem runesI_pos (s:ByteArray) (h:0<s.size):0<(yE s).length∧yH (yE s) 0=((Utf8.decode s 0).1:Int):=by
 unfold yE;obtain⟨k,a⟩:∃k,s.size=k+1:=⟨s.size-1,by omega⟩;rw [a,yA5,Zg h];exact⟨by simp,rfl⟩
theorem runes_rd (W:World) (s:ByteArray) (t g:Nat) :
 Rd .i32 (W.drew.alloc (.cells (Conv.runesFrom s s.size 0 #[]++Array.replicate g (.int .i32 0)) t)) (some ⟨W,0,none⟩) (yE s):=by
 refine .inr ⟨W.heap.size,0,rfl,by rw [zM];exact Zn _,fun i a=>?_⟩;rw [yHn];have h0:(W.drew.alloc (.cells (#[]++((yA5 s s.size 0).map (Value.int .i32)).toArray++Array.replicate g (.int .i32 0)) t)).heap[W.heap.size]? = _:=zL W.drew _;have b:(yE s)[i]? = some (yH (yE s) i):=yLa a;unfold yE at b a ⊢;simp only [World.cell?,h0];simp only [Za,Array.empty_append];rw [Array.getElem?_append_left (by simpa using a)];simp [b]
theorem conv_str (d:ByteArray) (c:d.size≤16777216) :
 ∃(C:World→Nat) (F:World→World),(∀w,(convert 9 121 (.string d)).run Tryz.prog w=.ok (.slice (some ⟨w.heap.size,0,none⟩) (yE d).length (C w)) (F w)) ∧
   ∀w,Below w.heap.size w (F w)∧Rd .i32 (F w) (some ⟨w.heap.size,0,none⟩) (yE d)∧(yE d).length≤C w:=by
 have b:Conv.runesFrom d d.size 0 #[]=((yE d).map (Value.int .i32)).toArray:=by
  rw [yHn];unfold yE;simp
 have a:(Conv.runesFrom d d.size 0 #[]).size=(yE d).length:=by rw [b];simp
 have e:=yD3 d d.size 0;refine⟨fun w=>grownCap w (yE d).length 0 21,fun w=>w.drew.alloc (.cells (Conv.runesFrom d d.size 0 #[]++Array.replicate (grownCap w (yE d).length 0 21-(yE d).length) (.int .i32 0)) 21),fun w=>?_,fun w=>⟨?_,?_,?_⟩⟩
 ·have:=run_runes_of_string (P:=Tryz.prog) w 9 121 21 d Tryz.underlying9 Tryz.underlying121 Tryz.underlying21 (by rw [a];unfold yE;omega);rw [this,a]
 ·exact (Zc _ _).drew.alloc (zT _) _
 ·exact runes_rd w d 21 _
 ·exact grownCap_ge w (yE d).length 0 21
theorem conv_two (W:World) (x y:Int):(convert 118 9 (.slice (some ⟨W,0,none⟩) 2 2)).run Tryz.prog (W.alloc (.cells #[.int .u8 x,.int .u8 y] 5)).drew=.ok (.string (strOfNums [x,y])) (W.alloc (.cells #[.int .u8 x,.int .u8 y] 5)).drew:=by
 refine conv_rdx (xs:=[x,y]) (.inr ⟨W.heap.size,0,rfl,by show W.heap.size<(W.alloc _).heap.size;rw [zM];exact Zn _,fun i a=>?_⟩) rfl;have a:i<2:=a;have b:=World.cell?_alloc_mark W #[.int .u8 x,.int .u8 y] 5 (0,0) i;rw [Za];refine Eq.trans b ?_;obtain rfl | rfl:i=0∨i=1:=by omega
 ·rfl
 ·rfl
theorem and15_u8:∀y:Fin 256,bits .and .u8 (y.val:Int) 15=(y.val:Int) % 16:=by decide +kernel
def digS:ByteArray:=⟨#[48,49,50,51,52,53,54,55,56,57,97,98,99,100,101,102]⟩
theorem digS_at (d:Nat) (a:d<16) (h:d<digS.size):((digS[d]'h).toNat:Int)=yMx d:=by
 have:d=0∨d=1∨d=2∨d=3∨d=4∨d=5∨d=6∨d=7∨d=8∨d=9∨d=10∨d=11∨d=12∨d=13∨d=14∨d=15:=by omega
 rcases this with rfl | rfl | rfl | rfl | rfl | rfl | rfl | rfl | rfl | rfl | rfl | rfl | rfl | rfl | rfl | rfl <;> rfl
theorem text_anyB (c:ByteArray) (hz:c.size≤16777216) (A b n:Int) (f o g:Bool) (w:World) (J:T8 w) (Y:DB w) :
 Calls Tryz.prog 87 #[c,A,yEq b n f o g] w fun e w' =>
  e=.returned (.tuple #[.string (yx c A b f g).1,.int .i64 (yx c A b f g).2])∧Below w w w':=by
 obtain⟨p,a⟩:=nm (yx c A b f g);rw [a];have a8:nextI c≤c.size:=by
  by_cases h:c.size=0
  ·unfold nextI;rw [Zg h];omega
  ·exact (yY c (by omega)).2
 unfold yx at a;obtain⟨k,K⟩:=nm (nextI c);have Z:=lh (fun (W:World) (q:Below w w W)=>K▸yId c W (J.below rfl q) (by omega));rw [K] at a a8;obtain⟨d,L⟩:=nm (c.extract 0 k);have b4:d.size=k:=by rw [←L];simp [ZV];omega
 rw [L] at a;have M:=lh (fun (W:World) (q:Below w w W)=>yD4 d W (J.below rfl q));have HD:=lh (fun (W:World) (q:Below w w W)=>Y.below q);have B:=lh a;clear J Y a K;go_enter Tryz.func87,Tryz.ntmps87;go_upto_region 1 with fail;have s:=qal w (.cells #[b,f,.int .i8 n,o,g] 26);have t:(w.alloc (.cells #[b,f,.int .i8 n,o,g] 26)).heap[w.heap.size]? = some (.cells #[b,f,.int .i8 n,o,g] 26 (0,0)):=zL w _;generalize w.alloc _=W1 at s t ⊢;have g0:(k:Int)≤(c.size:Int):=by omega
 go_upto_region 2 with (go_at_call 80;refine (Z.out _ s).mono ?_;rintro e w2 ⟨rfl,D⟩);have l:=s.trans (D.mono s.size);have N:=(D.block w.heap.size (zH.1 t).1).trans t;have hx:c.extract 0 k=d:=L;by_cases h0:d.size=0
 ·have a9:d=⟨#[]⟩:=qq (qv h0);have a:=B.out;unfold textD at a;rw [Zg h0] at a;subst a9;go_wp2
  go_ret2
  exact⟨by rw [←a];rfl,l⟩
 have b5:=yPp d h0;have O:0<d.size:=by omega
 by_cases E:yAh d=65533∧yAa d=1
 ·have a:=B.out;unfold textD at a;rw [Zf h0,Zg E] at a;obtain⟨G,P⟩:=E;have i:=lh (M.out w2 l);rw [G,P] at i;have a0:=lh a;clear a B;go_upto_region 6 with (go_at_call 95;refine i.out.mono ?_;rintro e j ⟨rfl,u⟩);have v:=l.trans (u.mono l.size);clear D u N t s l;have b6:0<k:=(by omega);obtain⟨y,hy⟩:∃y:Nat,(d[0]'O).toNat=y:=⟨_,rfl⟩;have b0:y<256:=(by rw [←hy];exact UInt8.toNat_lt _);have hq:(0:Int)≤(y:Int) / 16∧(y:Int) / 16<16:=(by omega);have ha:bits .and .u8 (y:Int) 15=(y:Int) % 16:=and15_u8 ⟨y,b0⟩;have Q:(0:Int)≤(y:Int) % 16∧(y:Int) % 16<16:=(by omega);obtain⟨R,i,b7⟩:∃R:Int→Int→ByteArray,(∀x y,R x y=strOfNums [x,y])∧∀x y,(R x y).size=2:=⟨fun x y=>strOfNums [x,y],fun _ _=>rfl,fun x y=>by rw [yFn];rfl⟩;have a1:=fun W x y=>conv_two W x y;simp only [←i] at a1;have b1:=lh i;clear i
  go_region
  go_wp2
  go_ret2
  refine⟨two_ret ?_,(v.alloc v.size _).drew⟩;have hg:(d.get! 0).toNat=y:=by
   rw [←hy];show (d.data[0]!).toNat=(d.data[0]).toNat;rw [JW d.data 0 O]
  have k1:=digS_at (y / 16) (by omega) (by show y / 16<16;omega);have k2:=digS_at (y % 16) (by omega) (by show y % 16<16;omega);rw [←a0.out,b1.out,hg,←k1,←k2];rfl
 ·have a:=B.out;unfold textD at a;rw [Zf h0,Zf E] at a;have i:=lh (M.out w2 l);have a0:=lh a;obtain⟨C,F,a1,H⟩:=conv_str d (by omega);obtain⟨a2,a3⟩:=runesI_pos d O;have a4:0≤yH (yE d) 0∧yH (yE d) 0<2147483648:=by
   have:=decode_le d 0;rw [a3];omega
  have b2:=yD3 d d.size 0;have S:=fun (W:World) (q:Below w w (F W))=>one_any d (yE d) (yE d).length (C W) W.heap.size 0 rfl a2 (H W).2.2 (by unfold yE;omega) A b n f o g (F W) (H W).2.1 a4 (HD.out _ q);have T:=lh H;rw [a] at S;have a5:=lh S;have a6:=lh E;clear a B H S E;obtain⟨r,hr⟩:=nm (yAh d);obtain⟨m,Q⟩:=nm (yAa d);rw [hr,Q] at i a6;clear hr Q;go_upto_region 5 with (go_at_call 95;refine i.out.mono ?_;rintro e j ⟨rfl,u⟩);have v:=l.trans (u.mono l.size);have U:=(u.block w.heap.size (zl (zH.1 t).1 D.size)).trans N;have V:=v.trans (((T.out j).1).mono v.size);have b3:w.heap.size<j.heap.size:=(zH.1 U).1;have z:=(((T.out j).1).block w.heap.size b3).trans U;have k0:(F j).cell? ⟨w,0,none⟩=some (.int .i64 b):=ce z;have c1:(F j).cell? ⟨w,1,none⟩=some (.bool f):=ce z;have k2:(F j).cell? ⟨w,2,none⟩=some (.int .i8 n):=ce z;have k3:(F j).cell? ⟨w,3,none⟩=some (.bool o):=ce z;have c4:(F j).cell? ⟨w,4,none⟩=some (.bool g):=ce z;have I:=lh V;have a7:=lh (a5.out j V);clear z U N t s D l u v V a5 a2 a3 a4 b2 T i Z M HD;by_cases G:r=65533
  ·subst G;have P:((m:Int)==1)=false:=by
    rw [zN];intro h;exact a6.out ⟨rfl,by omega⟩
   go_wp2_with (go_at_call 131;refine a7.out.mono ?_;rintro e w5 ⟨rfl,X⟩)
   go_ret2
   exact⟨rfl,I.out.trans (X.mono I.out.size)⟩
  ·have P:(r==65533)=false:=(by rw [zN];exact G);go_wp2_with (go_at_call 131;refine a7.out.mono ?_;rintro e w5 ⟨rfl,X⟩)
   go_ret2
   exact⟨rfl,I.out.trans (X.mono I.out.size)⟩
theorem text_any (c:ByteArray) (k:c.size≤2097152) (a b g:Int) (d h f:Bool) (w:World) (i:T8 w) (j:DB w) :
 Calls Tryz.prog 87 #[c,a,yEq b g d h f] w fun e w' =>
  e=.returned (.tuple #[.string (yx c a b d f).1,.int .i64 (yx c a b d f).2])∧Below w w w':=text_anyB c (by omega) a b g d h f w i j
end
section
open Go.RowKit Go.Proofs Go.Shelf
def Blk (W:World) (n m:Nat) (C:Nat→Array Value) (T:Nat→Nat):Prop:=∀j,j<m→W.heap[n+j]? = some (.cells (C j) (T j) (0,0))
theorem Blk.set {W:World} {n m:Nat} {C:Nat→Array Value} {T:Nat→Nat} (h:Blk W n m C T) (k i:Nat) (v:Value) {C':Nat→Array Value} (b:∀j,j<m→C' j=if j=k then (C j).setIfInBounds i v else C j) :
 Blk (W.setCell ⟨n+k,i,none⟩ v) n m C' T:=fun j a=>by
 rw [b j a];by_cases e:j=k
 ·subst e;rw [Zg rfl];exact yM (h j a) v
 ·rw [Zf e];exact yA (h j a) (by omega)
theorem Blk.below {W a:World} {n m:Nat} {C:Nat→Array Value} {T:Nat→Nat} (h:Blk W n m C T) (c:Below W W a):Blk a n m C T:=fun j b =>
 Eq.trans (c.block (n+j) (zH.1 (h j b)).1) (h j b)
theorem Blk.kept {A B:World} {n m:Nat} {C:Nat→Array Value} {T:Nat→Nat} (h:Blk A n m C T) {row:Option Nat} (c:A.grownBy B row) (d:∀k,row=some k→∃o,A.heap[k]? = some o∧o.isCells=false):Blk B n m C T:=fun j a =>
 (c.block _ (zH.1 (h j a)).1 (fun e=>by
   obtain⟨o,b,f⟩:=d _ e.symm;rw [h j a] at b;cases b;cases f)).trans (h j a)
theorem Blk.cell {W:World} {n m:Nat} {C:Nat→Array Value} {T:Nat→Nat} (h:Blk W n m C T) (j i:Nat) (a:j<m) {v:Value} (b:(C j)[i]? = some v):W.cell? ⟨n+j,i,none⟩=some v:=by
 simp [World.cell?,h j a,b]
theorem Blk.frozen {W:World} {n m:Nat} {C:Nat→Array Value} {T:Nat→Nat} (h:Blk W n m C T) (j i:Nat) (a:j<m):W.frozen? ⟨n+j,i,none⟩=false:=by
 simp [World.frozen?,h j a]
theorem Blk.alloc {W:World} {n m:Nat} {C:Nat→Array Value} {T:Nat→Nat} (h:Blk W n m C T) (o:Obj):Blk (W.alloc o) n m C T :=
 h.kept (row:=none) (World.grownBy_alloc W o none) (fun k e=>by cases e)
theorem Blk.push {W:World} {n m:Nat} {C:Nat→Array Value} {T:Nat→Nat} (h:Blk W n m C T) (a:W.heap.size=n+m):Blk (W.alloc (.cells (C m) (T m))) n (m+1) C T:=fun j b=>by
 by_cases e:j=m
 ·subst e;have:=zL W (.cells (C j) (T j))
  rwa [a] at this
 ·exact h.alloc _ j (by omega)
theorem Blk.nil {W:World} {n:Nat} {C:Nat→Array Value} {T:Nat→Nat}:Blk W n 0 C T:=fun j a=>by omega
end
section
open Go.RowKit Go.Proofs Go.Shelf
attribute [local go_sem] qV
theorem blankB_C (c:ByteArray):yQd c=yKg c:=by unfold yQd yKg;simp
def yGq (W:World) (f:Nat) (text:ByteArray) (wa:Option Addr) (wn wc:Nat) (e:Bool) (r:Rul) (want:Int) (join:Bool):Prop :=
 W.heap[f]? = some (.cells #[text,.slice wa wn wc,e,r.w,r.tab,r.wideA,.int .i8 want,join,r.raw] 125 (0,0))
theorem yGq.lt {W:World} {f:Nat} {a:ByteArray} {b:Option Addr} {c wc:Nat} {e:Bool} {r:Rul} {d:Int} {g:Bool} (h:yGq W f a b c wc e r d g):f<W.heap.size:=(zH.1 h).1
theorem yGq.below {W W':World} {f B:Nat} {a:ByteArray} {b:Option Addr} {c wc:Nat} {e:Bool} {r:Rul} {d:Int} {g:Bool} (h:yGq W f a b c wc e r d g) (i:Below B W W') (j:f<B):yGq W' f a b c wc e r d g :=
 (i.block f j).trans h
theorem yGq.cells {W:World} {f:Nat} {a:ByteArray} {b:Option Addr} {c wc:Nat} {e:Bool} {r:Rul} {d:Int} {g:Bool} (h:yGq W f a b c wc e r d g) :
 W.cell? ⟨f,0,none⟩=some (.string a)∧W.cell? ⟨f,1,none⟩=some (.slice b c wc)∧W.cell? ⟨f,2,none⟩=some (.bool e)∧W.cell? ⟨f,3,none⟩=some (.int .i64 r.w) ∧
 W.cell? ⟨f,4,none⟩=some (.int .i64 r.tab)∧W.cell? ⟨f,5,none⟩=some (.bool r.wideA)∧W.cell? ⟨f,6,none⟩=some (.int .i8 d)∧W.cell? ⟨f,7,none⟩=some (.bool g)∧W.cell? ⟨f,8,none⟩=some (.bool r.raw):=by
 unfold yGq at h;refine⟨?_,?_,?_,?_,?_,?_,?_,?_,?_⟩ <;> simp [World.cell?,h]
theorem last_any (f:Nat) (a:ByteArray) (b:Option Addr) (c wc:Nat) (e:Bool) (r:Rul) (d:Int) (g:Bool) (w:World) (h:yGq w f a b c wc e r d g) :
 Calls Tryz.prog 102 #[.pointer (some ⟨f,0,none⟩)] w fun i w'=>i=.returned (.int .i8 (yBc e))∧w'=w:=by
 have j:=h.cells.2.2.1;clear h;go_enter Tryz.func102,Tryz.ntmps102;cases e with
 | true =>
   go_wp2;go_ret;exact⟨rfl,rfl⟩
 | false =>
   go_wp2;go_ret;exact⟨rfl,rfl⟩
def rwC (f a n:Nat) (R:Int × Int × Int) (s:Fl) (tail:ByteArray):Nat→Array Value
 | 0=>#[.pointer (some ⟨f,0,none⟩)]
 | 1=>#[a,n,.int .i64 0]
 | 2=>#[.int .i64 R.1,.int .i64 R.2.1,.int .i64 R.2.2]
 | 3=>#[s.a,s.n,s.wide]
 | 4=>#[s.ma,s.mn,s.mw]
 | 5=>#[s.hangs]
 | 6=>#[s.c]
 | _=>#[tail]
def rwT:Nat→Nat
 | 0=>116
 | 1=>127
 | 2=>127
 | 3=>127
 | 4=>127
 | 5=>4
 | 6=>3
 | _=>9
def RwB (W:World) (B f a n:Nat) (R:Int × Int × Int) (s:Fl) (tail:ByteArray):Prop:=Blk W B 8 (rwC f a n R s tail) rwT
theorem lt8 {j:Nat} (h:j<8):j=0∨j=1∨j=2∨j=3∨j=4∨j=5∨j=6∨j=7:=by omega
section
variable {W W':World} {B f a n:Nat} {R:Int × Int × Int} {s:Fl} {tail:ByteArray}
theorem RwB.below (h:RwB W B f a n R s tail) (b:Below W W W'):RwB W' B f a n R s tail:=Blk.below h b
theorem RwB.cells (h:RwB W B f a n R s tail):W.cell? ⟨B,0,none⟩=some (.pointer (some ⟨f,0,none⟩))∧W.cell? ⟨B+1,0,none⟩=some (.int .i64 a)∧W.cell? ⟨B+1,1,none⟩=some (.int .i64 n)∧W.cell? ⟨B+1,2,none⟩=some (.int .i64 0) ∧
 W.cell? ⟨B+5,0,none⟩=some (.bool s.hangs)∧W.cell? ⟨B+6,0,none⟩=some (.int .i64 s.c)∧W.cell? ⟨B+7,0,none⟩=some (.string tail) :=
 ⟨Blk.cell h 0 0 (by omega) rfl,Blk.cell h 1 0 (by omega) rfl,Blk.cell h 1 1 (by omega) rfl,Blk.cell h 1 2 (by omega) rfl,Blk.cell h 5 0 (by omega) rfl,Blk.cell h 6 0 (by omega) rfl,Blk.cell h 7 0 (by omega) rfl⟩
theorem RwB.now (h:RwB W B f a n R s tail):W.cell? ⟨B+3,0,none⟩=some (.int .i64 s.a)∧W.cell? ⟨B+3,1,none⟩=some (.int .i64 s.n)∧W.cell? ⟨B+3,2,none⟩=some (.int .i64 s.wide) :=
 ⟨Blk.cell h 3 0 (by omega) rfl,Blk.cell h 3 1 (by omega) rfl,Blk.cell h 3 2 (by omega) rfl⟩
theorem RwB.may (h:RwB W B f a n R s tail):W.cell? ⟨B+4,0,none⟩=some (.int .i64 s.ma)∧W.cell? ⟨B+4,1,none⟩=some (.int .i64 s.mn)∧W.cell? ⟨B+4,2,none⟩=some (.int .i64 s.mw) :=
 ⟨Blk.cell h 4 0 (by omega) rfl,Blk.cell h 4 1 (by omega) rfl,Blk.cell h 4 2 (by omega) rfl⟩
theorem RwB.frz (h:RwB W B f a n R s tail) (j i:Nat) (b:j<8):W.frozen? ⟨B+j,i,none⟩=false:=Blk.frozen h j i b
theorem RwB.setN (h:RwB W B f a n R s tail) (i:Nat) (v:Int) (b:Fl) (d:(rwC f a n R b tail 3)=(rwC f a n R s tail 3).setIfInBounds i (.int .i64 v)) (e:b.ma=s.ma∧b.mn=s.mn∧b.mw=s.mw∧b.hangs=s.hangs∧b.c=s.c) :
 RwB (W.setCell ⟨B+3,i,none⟩ (.int .i64 v)) B f a n R b tail:=Blk.set h 3 i _ (fun j g=>by
 obtain⟨k,l,m,o,p⟩:=e;rcases lt8 g with rfl | rfl | rfl | rfl | rfl | rfl | rfl | rfl
 case inr.inr.inr.inl=>rw [Zg rfl];exact d
 all_goals (rw [Zf (by decide)];simp only [rwC,k,l,m,o,p]))
theorem RwB.setA (h:RwB W B f a n R s tail) (v:Nat):RwB (W.setCell ⟨B+3,0,none⟩ (.int .i64 v)) B f a n R { s with a:=v } tail:=h.setN 0 v _ rfl ⟨rfl,rfl,rfl,rfl,rfl⟩
theorem RwB.setK (h:RwB W B f a n R s tail) (v:Nat):RwB (W.setCell ⟨B+3,1,none⟩ (.int .i64 v)) B f a n R { s with n:=v } tail:=h.setN 1 v _ rfl ⟨rfl,rfl,rfl,rfl,rfl⟩
theorem RwB.setW (h:RwB W B f a n R s tail) (v:Int):RwB (W.setCell ⟨B+3,2,none⟩ (.int .i64 v)) B f a n R { s with wide:=v } tail:=h.setN 2 v _ rfl ⟨rfl,rfl,rfl,rfl,rfl⟩
theorem RwB.setM (h:RwB W B f a n R s tail) (x y:Nat) (z:Int) :
 RwB (((W.setCell ⟨B+4,0,none⟩ (.int .i64 x)).setCell ⟨B+4,1,none⟩ (.int .i64 y)).setCell ⟨B+4,2,none⟩ (.int .i64 z)) B f a n R { s with ma:=x,mn:=y,mw:=z } tail:=by
 have c:=Blk.set (C':=rwC f a n R { s with ma:=x } tail) h 4 0 (.int .i64 x) (fun j b=>by rcases lt8 b with rfl | rfl | rfl | rfl | rfl | rfl | rfl | rfl <;> rfl);have d:=Blk.set (C':=rwC f a n R { s with ma:=x,mn:=y } tail) c 4 1 (.int .i64 y) (fun j b=>by rcases lt8 b with rfl | rfl | rfl | rfl | rfl | rfl | rfl | rfl <;> rfl);exact Blk.set (C':=rwC f a n R { s with ma:=x,mn:=y,mw:=z } tail) d 4 2 (.int .i64 z) (fun j b=>by rcases lt8 b with rfl | rfl | rfl | rfl | rfl | rfl | rfl | rfl <;> rfl)
theorem RwB.setR (h:RwB W B f a n R s tail) (x y z:Int) :
 RwB (((W.setCell ⟨B+2,0,none⟩ (.int .i64 x)).setCell ⟨B+2,1,none⟩ (.int .i64 y)).setCell ⟨B+2,2,none⟩ (.int .i64 z)) B f a n (x,y,z) s tail:=by
 have c:=Blk.set (C':=rwC f a n (x,R.2.1,R.2.2) s tail) h 2 0 (.int .i64 x) (fun j b=>by rcases lt8 b with rfl | rfl | rfl | rfl | rfl | rfl | rfl | rfl <;> rfl);have d:=Blk.set (C':=rwC f a n (x,y,R.2.2) s tail) c 2 1 (.int .i64 y) (fun j b=>by rcases lt8 b with rfl | rfl | rfl | rfl | rfl | rfl | rfl | rfl <;> rfl);exact Blk.set (C':=rwC f a n (x,y,z) s tail) d 2 2 (.int .i64 z) (fun j b=>by rcases lt8 b with rfl | rfl | rfl | rfl | rfl | rfl | rfl | rfl <;> rfl)
theorem RwB.setH (h:RwB W B f a n R s tail) (b:Bool):RwB (W.setCell ⟨B+5,0,none⟩ (.bool b)) B f a n R { s with hangs:=b } tail :=
 Blk.set h 5 0 (.bool b) (fun j c=>by rcases lt8 c with rfl | rfl | rfl | rfl | rfl | rfl | rfl | rfl <;> rfl)
theorem RwB.setC (h:RwB W B f a n R s tail) (v:Int):RwB (W.setCell ⟨B+6,0,none⟩ (.int .i64 v)) B f a n R { s with c:=v } tail :=
 Blk.set h 6 0 (.int .i64 v) (fun j b=>by rcases lt8 b with rfl | rfl | rfl | rfl | rfl | rfl | rfl | rfl <;> rfl)
end
def rwW (w:World) (f a n B:Nat) (tail:ByteArray):World :=
 (((((((w.alloc (.cells (rwC f a n (0,0,0) (fl0 a n) tail 0) (rwT 0))).alloc (.cells (rwC f a n (0,0,0) (fl0 a n) tail 1) (rwT 1))).alloc (.cells (rwC f a n (0,0,0) (fl0 a n) tail 2) (rwT 2))).alloc (.cells (rwC f a n (0,0,0) (fl0 a n) tail 3) (rwT 3))).alloc
   (.cells (rwC f a n (0,0,0) (fl0 a n) tail 4) (rwT 4))).alloc (.cells (rwC f a n (0,0,0) (fl0 a n) tail 5) (rwT 5))).alloc (.cells (rwC f a n (0,0,0) (fl0 a n) tail 6) (rwT 6))).alloc (.cells (rwC f a n (0,0,0) (fl0 a n) tail 7) (rwT 7))
theorem rw_start (w:World) (f a n B:Nat) (tail:ByteArray) (j:w.heap.size=B):RwB (rwW w f a n B tail) B f a n (0,0,0) (fl0 a n) tail∧Below B w (rwW w f a n B tail):=by
 constructor
 ·unfold rwW RwB;have h0:Blk w B 0 (rwC f a n (0,0,0) (fl0 a n) tail) rwT:=Blk.nil;have b:=h0.push (by omega);have c:=b.push (by simp only [zM];omega);have d:=c.push (by simp only [zM];omega);have e:=d.push (by simp only [zM];omega);have g:=e.push (by simp only [zM];omega);have h:=g.push (by simp only [zM];omega);have i:=h.push (by simp only [zM];omega);exact i.push (by simp only [zM];omega)
 ·unfold rwW;refine ((((((((Zc _ w).alloc (by omega) _).alloc ?_ _).alloc ?_ _).alloc ?_ _).alloc ?_ _).alloc ?_ _).alloc ?_ _).alloc ?_ _ <;> simp only [zM] <;> omega
theorem yI9 {r:Rul} {L:List ByteArray} {b a:Fl} (h:∀R,yAg r (L++R) b=yAg r R a) {x:ByteArray} (c:(yFz r a x).2=false):∀R,yAg r ((L++[x])++R) b=yAg r R (yFz r a x).1:=fun R=>by
 rw [zZ,h,ZN,yAg,Zf (by rw [c];decide)]
theorem fill_full {r:Rul} {L:List ByteArray} {b a:Fl} (h:∀R,yAg r (L++R) b=yAg r R a) {x:ByteArray} (c:(yFz r a x).2=true):∀R,yAg r ((L++[x])++R) b=((yFz r a x).1,true):=fun R=>by
 rw [zZ,h,ZN,yAg,Zg c]
def FlB (a n m z:Nat) (s:Fl):Prop:=s.n=n+m∧s.a≤a+m*z∧0≤s.wide∧s.wide≤19*m∧0≤s.c∧s.c≤19
theorem FlB.start (a n z:Nat):FlB a n 0 z (fl0 a n):=⟨rfl,by simp [fl0],by simp [fl0],by simp [fl0],by simp [fl0],by simp [fl0]⟩
theorem FlB.adv {a n m z:Nat} {s:Fl} (h:FlB a n m z s) (b:List Int) (x:Nat) (f:x≤z):FlB a n (m+1) z (adv b x s):=by
 obtain⟨g,i,j,k,d,e⟩:=h;refine⟨by show s.n+1=_;omega,?_,by show 0≤s.wide+s.c;omega,?_,d,e⟩
 ·show s.a+x≤a+(m+1)*z;rw [JD,Nat.one_mul];omega
 ·show s.wide+s.c≤19*((m+1:Nat):Int);omega
theorem countF_snoc {L:List (Nat × ByteArray)} {ks:List Int} (h:∀R,yCd (L++R) ks=yCd R (ks.drop L.length)) (p:Nat × ByteArray) (a:L.length<ks.length) :
 ∀R,yCd ((L++[p])++R) ks=if yH ks L.length=2 then some p.1 else yCd R (ks.drop (L++[p]).length):=fun R=>by
 rw [zZ,h,ZN,zJ,qT a];have:yH ks L.length=ks[L.length]:=by unfold yH;rw [zI,zF a];rfl
 rw [yCd,this];rfl
theorem own_mono {w:World} {base base' e a n:Nat} {v:Value} {xs:List Value} (h:w.ownsRow base e a v n xs) (b:base'≤base):w.ownsRow base' e a v n xs :=
 ⟨h.1,h.2.imp id fun ⟨g,cap,cur,h1,h2,h3⟩=>⟨g,cap,cur,h1,zY b h2,h3⟩⟩
theorem yQn {W:World} {a b t c:Nat} {x y:Array Value} {f e:Nat × Nat} (g:W.heap[a]? = some (.cells x t f)) (d:W.heap[b]? = some (.cells y c e)) (h:t≠c):a≠b:=by
 rintro rfl;rw [g] at d;cases d;exact h rfl
abbrev filC (text:ByteArray) (wa:Option Addr) (wn wc:Nat) (e:Bool) (wd tab:Int) (wideA:Bool) (want:Int) (join raw:Bool):Array Value :=
 #[text,.slice wa wn wc,e,wd,tab,wideA,.int .i8 want,join,raw]
def CnA (W:World) (m F P:Nat) (line text:ByteArray) (wa:Option Addr) (wc:Nat) (e:Bool) (wd tab:Int) (wideA:Bool) (want:Int) (join raw:Bool):Prop :=
 W.heap[F]? = some (.cells (filC text wa (ye line).length wc e wd tab wideA want join raw) 125 (0,0))∧Boxed W P 116 (.pointer (some ⟨F,0,none⟩))∧yG .i8 22 W m wa wc (ye line)
section
variable {W W':World} {m F P:Nat} {line text:ByteArray} {wa:Option Addr} {wc:Nat} {e:Bool} {wd tab:Int} {wideA:Bool} {want:Int} {join raw:Bool}
theorem CnA.kept (h:CnA W m F P line text wa wc e wd tab wideA want join raw) {row:Option Nat} (a:W.grownBy W' row) (n:∀k,row=some k→∃o,W.heap[k]? = some o∧o.isCells=false):CnA W' m F P line text wa wc e wd tab wideA want join raw:=by
 obtain⟨c,i,j⟩:=h;have d:∀{b:Nat} {x:Array Value} {t:Nat} {f:Nat × Nat},W.heap[b]? = some (.cells x t f)→some b≠row:=fun p e=>by
  obtain⟨o,l,q⟩:=n _ e.symm;rw [p] at l;cases l;cases q
 refine⟨(a.block _ (zH.1 c).1 (d c)).trans c,i.kept a (d i),JC j a ?_⟩;rcases j.2 with ⟨h,_⟩ | ⟨g,cap,u,h,_,r,_⟩
 ·rw [h];exact .inl rfl
 ·rw [h];refine .inr fun s=>?_;exact d r s
theorem CnA.below (h:CnA W m F P line text wa wc e wd tab wideA want join raw) (a:Below W W W'):CnA W' m F P line text wa wc e wd tab wideA want join raw :=
 h.kept (row:=none) ⟨a.os,a.tape,a.output,a.size,fun q b _=>a.block q b⟩ (fun k e=>by cases e)
theorem CnA.other (h:CnA W m F P line text wa wc e wd tab wideA want join raw) {n i t:Nat} {x:Array Value} (a:W.heap[n]? = some (.cells x t (0,0))) (b:t≠125) (c:t≠116) (d:t≠22) (v:Value) :
 CnA (W.setCell ⟨n,i,none⟩ v) m F P line text wa wc e wd tab wideA want join raw :=
 ⟨yA h.1 (yQn h.1 a b.symm),yA h.2.1 (yQn h.2.1 a c.symm),yp h.2.2 (yA8 h.2.2 a d)⟩
theorem CnA.fil (h:CnA W m F P line text wa wc e wd tab wideA want join raw) (t:ByteArray):CnA ((W.setCell ⟨F,0,none⟩ (.string t)).setCell ⟨F,2,none⟩ (.bool true)) m F P line t wa wc true wd tab wideA want join raw:=by
 obtain⟨a,c,b⟩:=h;have d:=yQn a c (by decide);have f:=yM (i:=0) a (.string t);have g:=yM (i:=2) f (.bool true);exact⟨g,yA (yA c d.symm) d.symm,yp (yp b (yA8 b a (by decide))) (yA8 (yp b (yA8 b a (by decide))) f (by decide))⟩
theorem CnA.cells (h:CnA W m F P line text wa wc e wd tab wideA want join raw):W.cell? ⟨F,0,none⟩=some (.string text)∧W.cell? ⟨F,1,none⟩=some (.slice wa (ye line).length wc)∧W.cell? ⟨F,2,none⟩=some (.bool e)∧W.cell? ⟨P,0,none⟩=some (.pointer (some ⟨F,0,none⟩)):=by
 obtain⟨a,b,_⟩:=h;exact⟨by simp [World.cell?,a],by simp [World.cell?,a],by simp [World.cell?,a],b.cell⟩
theorem CnA.frz (h:CnA W m F P line text wa wc e wd tab wideA want join raw) (i:Nat):W.frozen? ⟨F,i,none⟩=false:=fz h.1
end
def CnR (w W0:World) (line:ByteArray) (wd tab:Int) (wideA:Bool) (want:Int) (join raw:Bool) (v7:Value) (wx:World):Prop :=
 ∃F P wa wc,v7=.pointer (some ⟨P,0,none⟩)∧W0.heap.size≤F∧W0.heap.size≤P∧F<wx.heap.size∧P<wx.heap.size∧CnA wx W0.heap.size F P line line wa wc false wd tab wideA want join raw∧Below W0 W0 wx
theorem cn_made {w a X:World} {line:ByteArray} {wa:Option Addr} {wc F P:Nat} {wd tab:Int} {wideA:Bool} {want:Int} {join raw:Bool} (f:Below a a X) (g:a.heap.size≤F) (d:a.heap.size≤P)
 (c:X.heap[F]? = some (.cells (filC line wa (ye line).length wc false wd tab wideA want join raw) 125 (0,0))) (b:Boxed X P 116 (.pointer none)) (e:yG .i8 22 X a.heap.size wa wc (ye line)) :
 CnR w a line wd tab wideA want join raw (.pointer (some ⟨P,0,none⟩)) (X.setCell ⟨P,0,none⟩ (.pointer (some ⟨F,0,none⟩))):=by
 have h:=yQn c b (by decide);refine⟨F,P,wa,wc,rfl,g,d,?_,?_,⟨yA c h,?_,yp e (yA8 e b (by decide))⟩,f.setCell (p:=⟨P,0,none⟩) d _⟩
 ·rw [World.size_setCell];exact (zH.1 c).1
 ·rw [World.size_setCell];exact (zH.1 b).1
 ·exact yM b _
theorem cn_lie {w a X:World} {line:ByteArray} {wa:Option Addr} {wc F P:Nat} {wd tab:Int} {wideA:Bool} {want:Int} {join raw:Bool} (d:Below a a X) (e:a.heap.size≤F) (f:a.heap.size≤P)
 (b:X.heap[F]? = some (.cells (filC line wa (ye line).length wc false wd tab wideA want join raw) 125 (0,0))) (c:Boxed X P 116 (.pointer (some ⟨F,0,none⟩))) (g:yG .i8 22 X a.heap.size wa wc (ye line)) :
 CnR w a line wd tab wideA want join raw (.pointer (some ⟨P,0,none⟩)) X :=
 ⟨F,P,wa,wc,rfl,e,f,(zH.1 b).1,(zH.1 c).1,⟨b,c,g⟩,d⟩
theorem yCm (w:World) (a b:Obj):((w.alloc a).alloc b).heap[w.heap.size]? = some a∧((w.alloc a).alloc b).heap[w.heap.size+1]? = some b∧Below w w ((w.alloc a).alloc b):=by
 refine⟨?_,?_,((Zc _ _).alloc (zT _) _).alloc (by simp) _⟩
 ·have c:=zL w a;have d:=((Zc (w.alloc a).heap.size (w.alloc a)).alloc (zT _) b).block w.heap.size (by rw [zM];omega);exact d.trans c
 ·have c:=zL (w.alloc a) b;rw [zM] at c;exact c
theorem yV {A B:World} {b t:Nat} {v:Value} (h:Boxed A b t v) {row:Option Nat} (c:A.grownBy B row) (d:∀k,row=some k→∃o,A.heap[k]? = some o∧o.isCells=false):Boxed B b t v :=
 h.kept c (fun e=>by
  obtain⟨o,a,f⟩:=d _ e.symm;rw [show A.heap[_]? = _ from h] at a;cases a;cases f)
def CntI (w W0:World) (m n F P:Nat) (line:ByteArray) (wa:Option Addr) (cp:Nat) (wd tab:Int) (wideA:Bool) (want:Int) (join raw:Bool) (pre:List (yO line)) (W:World):Prop :=
 Boxed W n 3 (.int .i64 pre.length)∧Boxed W (n+1) 9 (.string line)∧CnA W m F P line line wa cp false wd tab wideA want join raw∧(∀R,yCd (pre.map (·.1)++R) (ye line)=yCd R ((ye line).drop pre.length))∧Below m W0 W
def CntX (W0:World) (m F P:Nat) (line:ByteArray) (wa:Option Addr) (cp:Nat) (wd tab:Int) (wideA:Bool) (want:Int) (join raw:Bool) (c:Code) (pre:List (yO line)) (W:World):Prop :=
 c=.exit 0∧∃e,(∀R,yCd (pre.map (·.1)++R) (ye line)=some e)∧CnA W m F P line (line.extract 0 e) wa cp true wd tab wideA want join raw∧Below m W0 W
theorem counted_any (line:ByteArray) (hs:line.size≤2097152) (wd tab want:Int) (wideA join raw:Bool) (w:World) (hT:T8 w) :
 Calls Tryz.prog 59 #[line,wd,yEq tab want wideA join raw] w fun e w' =>
  ∃F wa wc,e=.returned (.pointer (some ⟨F,0,none⟩))∧w.heap.size≤F∧yGq w' F (yU line) wa (ye line).length wc (yBz line).isSome ⟨ye line,wd,tab,wideA,raw⟩ want join∧Rd .i8 w' wa (ye line)∧Below w w w':=by
 refine (qG (n:=4)).1 ?_;refine qI Tryz.func59 rfl trivial ?_ rfl;simp only [Tryz.ntmps59,qW,zb,zn,Nat.reduceAdd,Nat.reduceSub,qX,qY,qZ,qd,zp,zo];gi_upto_region 1 with fail;have a3:Below w w ((w.alloc (.cells #[line] 9)).alloc (.cells #[tab,wideA,.int .i8 want,join,raw] 26)):=((Zc _ _).alloc (zT _) _).alloc (by simp) _;have a8:Boxed ((w.alloc (.cells #[line] 9)).alloc (.cells #[tab,wideA,.int .i8 want,join,raw] 26)) w.heap.size 9 (.string line):=(Boxed.new w _ _).alloc _;have a9:((w.alloc (.cells #[line] 9)).alloc (.cells #[tab,wideA,.int .i8 want,join,raw] 26)).heap[w.heap.size+1]? = some (.cells #[tab,wideA,.int .i8 want,join,raw] 26 (0,0)):=by
  have:=zL (w.alloc (.cells #[line] 9)) (.cells #[tab,wideA,.int .i8 want,join,raw] 26);rw [zM] at this;exact this
 have M:((w.alloc (.cells #[line] 9)).alloc (.cells #[tab,wideA,.int .i8 want,join,raw] 26)).heap.size=w.heap.size+2:=by rw [zM,zM]
 generalize (w.alloc _).alloc _=W0 at a3 a8 a9 M ⊢;have E:=hT.below rfl a3;have l0:=a8.cell;obtain⟨l1,l2,l3,l4,l5⟩:=qc5 a9;have y:=lh (fun (W:World) (s:Below W0 W0 W)=>(⟨yB s (by omega) l0,yB s (by omega) l1,yB s (by omega) l2,yB s (by omega) l3,yB s (by omega) l4,yB s (by omega) l5⟩ :
  W.cell? ⟨w,0,none⟩=some (.string line)∧W.cell? ⟨w.heap.size+1,0,none⟩=some (.int .i64 tab)∧W.cell? ⟨w.heap.size+1,1,none⟩=some (.bool wideA)∧W.cell? ⟨w.heap.size+1,2,none⟩=some (.int .i8 want)∧W.cell? ⟨w.heap.size+1,3,none⟩=some (.bool join)∧W.cell? ⟨w.heap.size+1,4,none⟩=some (.bool raw)))
 have c6:Hid (∀W,Below W0 W0 W→Calls Tryz.prog 68 #[line] W fun e w'=>∃a c,e=.returned (.slice a (ye line).length c)∧yG .i8 22 w' W0.heap.size a c (ye line)∧Below W0 W0 w'∧Below W.heap.size W w'∧W.heap.size≤w'.heap.size∧W0.heap.size≤w'.heap.size) :=
  lh fun W s=>(yMl line W (E.below rfl s) hs).mono fun e w' ⟨a,c,f,H,d⟩=>⟨a,c,f,own_mono H s.size,s.trans (d.mono s.size),d,d.size,zY s.size d.size⟩
 have c7:=lh a3;have d8:=lh E;have a4:=lh M;clear a3 a8 a9 E hT M;refine wpIn_wide.2 ?_;go_cut [7] from 10 to 16 (fun v7 wx=>CnR w W0 line wd tab wideA want join raw v7 wx)
 case first =>
  go_region_held3 (fun w'=>w'.cell? ⟨w,0,none⟩=some (.string line)∧w'.cell? ⟨w.heap.size+1,0,none⟩=some (.int .i64 tab)∧w'.cell? ⟨w.heap.size+1,1,none⟩=some (.bool wideA)∧w'.cell? ⟨w.heap.size+1,2,none⟩=some (.int .i8 want)∧w'.cell? ⟨w.heap.size+1,3,none⟩=some (.bool join)∧w'.cell? ⟨w.heap.size+1,4,none⟩=some (.bool raw)∧Below W0 W0 w')
   ((refine (fun O=>⟨(y.out _ O).1,(y.out _ O).2.1,(y.out _ O).2.2.1,(y.out _ O).2.2.2.1,(y.out _ O).2.2.2.2.1,(y.out _ O).2.2.2.2.2,O⟩) ?_;repeat (first | assumption | exact Zc _ _ | refine Below.drew ?_ | refine Below.alloc ?_ (by first | omega | (simp;omega)) _ | refine Below.setCell ?_ (by first | exact zT _ | (dsimp only;omega) | (simp;done) | (simp;omega)) _)))
   (first | (go_at_call 68;refine (c6.out _ (by repeat (first | assumption | exact Zc _ _ | refine Below.drew ?_ | refine Below.alloc ?_ (by first | omega | (simp;omega)) _))).mono ?_;rintro e w1 ⟨a,c,rfl,hO,b0,b1,g3,U⟩;try (have b2:w1.cell? ⟨W0,0,none⟩=some (.pointer none):=(b1.cell (p:=⟨W0,0,none⟩) (by simp)).trans (World.cell?_alloc_mark W0 #[.pointer none] 116 (0,0) 0);have d9:w1.frozen? ⟨W0,0,none⟩=false:=(b1.frozen (p:=⟨W0,0,none⟩) (by simp)).trans (Boxed.new W0 116 (.pointer none)).frozen;have g4:∀o,(w1.alloc o).cell? ⟨W0,0,none⟩=some (.pointer none):=fun o=>yB ((Zc w1.heap.size w1).alloc (zT _) o) (yD b2) b2;have g5:∀o,(w1.alloc o).frozen? ⟨W0,0,none⟩=false:=fun o=>(((Zc w1.heap.size w1).alloc (zT _) o).frozen (p:=⟨W0,0,none⟩) (yD b2)).trans d9)))
  ·go_wp2;go_meet
   case rel =>
    obtain⟨Z,t2,t⟩:=yCm w1 (.cells (filC line a (ye line).length c false wd tab wideA want join raw) 125 (0,0)) (.cells #[.pointer (some ⟨w1,0,none⟩)] 116 (0,0));exact cn_lie (b0.trans (t.mono U)) U (by omega) Z t2 (hO.keep t)
  ·go_wp2;go_meet
   case rel =>
    obtain⟨Z,t2,t⟩:=yCm w1 (.cells #[.pointer (some ⟨w1.heap.size+1,0,none⟩)] 116 (0,0)) (.cells (filC line a (ye line).length c false wd tab wideA want join raw) 125 (0,0));exact cn_lie (b0.trans (t.mono U)) (by omega) U t2 Z (hO.keep t)
  ·go_wp2;go_meet
   case rel =>
    have t:=(Zc w1.heap.size w1).alloc (zT _) (.cells (filC line a (ye line).length c false wd tab wideA want join raw) 125 (0,0));have e0:Boxed w1 W0.heap.size 116 (.pointer none):=(b1.block W0.heap.size (by simp)).trans (Boxed.new W0 116 (.pointer none));exact cn_made (b0.trans (t.mono U)) U (zT _) (zL w1 _) (e0.alloc _) (hO.keep t)
 case rest =>
  obtain⟨F,P,wa,cp,rfl,hF,hP,e1,e4,I,b3⟩:=hcut;have M:=a4.out;have c0:wc.cell? ⟨w,0,none⟩=some (.string line):=yB b3 (by omega) l0;have e5:w.heap.size<wc.heap.size:=yD c0;have J:=lh I;have b4:=lh b3;have e6:=lh l0;clear I b3 l0 l1 l2 l3 l4 l5 c6 y M;gi_wp2;refine⟨trivial,?_⟩;refine (qG.2 (yIy line _)).mono ?_;rintro e' z ⟨rfl,c8⟩;obtain⟨n,hn⟩:=nm (wc.heap.size);have e7:z.heap.size=n+2∧Boxed z n 3 (.int .i64 0)∧Boxed z (n+1) 9 (.string line)∧Below n wc z:=by
   obtain⟨Z,t2,t⟩:=yCm wc (.cells #[.int .i64 0] 3 (0,0)) (.cells #[line] 9 (0,0));rw [c8,←hn];exact⟨by rw [zM,zM],Z,t2,t⟩
  rw [zM,hn];clear c8;obtain⟨e8,c9,b5,b6⟩:=e7;unfold itV;gi_wp2;obtain⟨m,hm⟩:=nm (W0.heap.size);have E:=d8.out;have d:Tryz.lays197_ren.g 3<m:=(by have:=yD (E.1 0 (by omega));omega);have u:Tryz.lays197_ren.g 4<m:=(by have:=yD (E.2 0 (by omega)).1;omega);have e9:m≤n:=(by have:=b4.out.size;omega);have b7:Below m W0 z:=(by rw [←hm];exact b4.out.trans (b6.mono (by omega)));have b8:=E.below hm.symm b7;have b9:=J.out.below (by rw [hn];exact b6);rw [hm] at b9 hF hP;have g6:w.heap.size<m:=(by have:=a4.out;omega);have HT:=lh b8;clear E J b4;refine wpIn_rangeFunc_ownF (F:=Fence.wide) rfl (by omega) (gf:=124) (lb:=#[.pointer (some ⟨n+1,0,none⟩)]) rfl trivial (qJ Tryz.func124 (by kernel_rfl) rfl)
   (yBf 3 (by omega) (n+1) m line (by omega) d u z (by omega) b5.cell b8) (fun h k=>KpB.trans h k) (yEy (w:=z) (by omega)) (Zc _ _) (fun _=>rfl)
   (CntI w W0 m n F P line wa cp wd tab wideA want join raw) (CntX W0 m F P line wa cp wd tab wideA want join raw) ?hI ?hIx ?h0
   (fun x=>{ tmps:=#[line,wd,yEq tab want wideA join raw,.pointer (some ⟨w,0,none⟩),undef,.pointer (some ⟨w.heap.size+1,0,none⟩),.pointer none,.pointer (some ⟨P,0,none⟩),.pointer (some ⟨n,0,none⟩),.int .i64 x.1.1,u10,u11,u12,u13,u14,u15,u16,line,.func (.func 124) #[] #[.pointer (some ⟨n+1,0,none⟩)],.int .i64 x.1.1,.string x.1.2,undef,undef,undef,undef,undef,undef,undef,undef,undef,undef,undef,undef,undef,undef,undef,undef,undef,undef,undef,undef],defers:=[] }) ?assign ?body ?done ?stop
  case hI =>
   rintro pre A B row ⟨f,H,d,u,i⟩ Q T;refine⟨?_,?_,d.kept Q (fun k e=>(T k e).2),u,i.grown Q (by have:=i.size;omega) (fun k e=>by have:=(T k e).1;omega)⟩
   ·exact yV f Q (fun k e=>(T k e).2)
   ·exact yV H Q (fun k e=>(T k e).2)
  case hIx =>
   rintro c pre A B row ⟨h0,e,f,d,i⟩ Q T;exact⟨h0,e,f,d.kept Q (fun k e=>(T k e).2),i.grown Q (by have:=i.size;omega) (fun k e=>by have:=(T k e).1;omega)⟩
  case h0=>exact⟨c9,b5,b9,fun R=>by simp,b7⟩
  case assign =>
   intro l x W K j;gi_wp2;exact j
  case body =>
   rintro l pre x W ⟨f,H,d,u,i⟩ a5;obtain⟨a0,a6⟩:∃a,x.1.1=a:=⟨_,rfl⟩;obtain⟨k,V⟩:=nm (pre.length);have hx:=x.2;rw [a6] at hx;have g7:a0≤line.size:=(by omega);simp only [a6];rw [V] at f a5 u;have c1:k<(ye line).length:=(by rw [yFg];exact a5);have g8:k<2097152:=(by have:=yAj line;omega);obtain⟨G,hG,g9,h6,f1,_⟩:=d.2.2.at k c1;subst hG;obtain⟨q,hq⟩:=nm (yH (ye line) k);rw [hq] at f1;obtain⟨d0,d1,d2,X⟩:=d.cells;have f0:=d.frz 0;have f2:=d.frz 2;have ci:=f.cell;have fi:=f.frozen;have cl:W.cell? ⟨w,0,none⟩=some (.string line):=yB i (by omega) e6.out;have C:=countF_snoc (L:=pre.map (·.1)) (ks:=ye line) (by rw [zK,V];exact u) x.1 (by rw [zK,V];exact c1);rw [zK,V,hq,a6] at C;obtain⟨N,hN⟩:=nm ((ye line).length);rw [hN] at c1 d1;have HN:=lh hN;have H1:=lh f;have H2:=lh H;have H3:=lh d;have Y:=lh i;have HX:=lh hx;have a7:=lh C;have y:=lh V;have h7:=lh a5;clear f H d u i hx C a6 V a5 hq hN c9 b5 b6 b7 b8 b9 c0 e5 e1 e4 e8;gi_wp2;refine yv (by kernel_rfl) (by kernel_rfl) (fun _ _ h=>h) ?_
   repeat (go_big_quiet_step (fail))
   refine Zt ?_;intro _ f3;obtain⟨nq,f4⟩:=f3;subst f4;by_cases e2:q=2
   ·subst e2;have C:=fun R=>(a7.out R).trans (Zg rfl);have HE:=lh C;have c2:F≠P:=yQn H3.out.1 H3.out.2.1 (by decide);have c3:F≠w.heap.size:=(by omega);clear C a7;gi_wp2;obtain⟨S,c4,c5⟩:∃S:World→Prop,(∀w',S w'→w'.cell? ⟨P,0,none⟩=some (.pointer (some ⟨F,0,none⟩))∧w'.cell? ⟨w,0,none⟩=some (.string line)) ∧
     ∀w',w'.cell? ⟨P,0,none⟩=some (.pointer (some ⟨F,0,none⟩))→w'.cell? ⟨w,0,none⟩=some (.string line)→S w':=⟨fun w'=>w'.cell? ⟨P,0,none⟩=some (.pointer (some ⟨F,0,none⟩))∧w'.cell? ⟨w,0,none⟩=some (.string line),fun _ h=>h,fun _ a b=>⟨a,b⟩⟩
    have f5:∀p:WIn S,p.w.cell? ⟨P,0,none⟩=some (.pointer (some ⟨F,0,none⟩)):=fun p=>(c4 _ p.h).1;have f6:∀p:WIn S,p.w.cell? ⟨w,0,none⟩=some (.string line):=fun p=>(c4 _ p.h).2;have HS:=lh c5;have f7:Nonempty (WIn S):=⟨⟨W,c5 _ X cl⟩⟩;clear c4 c5;refine yHq S [7,2] (by kernel_rfl) (by kernel_rfl) (fun _ _ _ _ h=>h) (fun _ _ h=>h) (HS.out _ X cl) ?_;simp only [yHw,Zm,Zj,qp,ZZ]
    repeat (go_big_quiet_step (fail))
    refine Zt ?_;intro K j;have a1:=lh j;clear j;go_wp2;refine a1.out _ _ (HS.out _ ((Zw _ _ _ _ c2).trans X) ((Zw _ _ _ _ c3).trans cl)) ?_;clear a1
    repeat (go_big_quiet_step (fail))
    refine Zt ?_;intro K j;have a1:=lh j;clear j;have f8:((W.drewN nq).drew.setCell ⟨F,0,none⟩ (.string (line.extract 0 a0))).cell? ⟨F,2,none⟩=some (.bool false):=(World.cell?_setCell_other _ _ _ _ (by simp)).trans d2;have f9:((W.drewN nq).drew.setCell ⟨F,0,none⟩ (.string (line.extract 0 a0))).frozen? ⟨F,2,none⟩=false:=(by rw [World.frozen?_setCell];exact f2);go_wp2;refine a1.out _ _ (HS.out _ ((Zw _ _ _ _ c2).trans ((Zw _ _ _ _ c2).trans X)) ((Zw _ _ _ _ c3).trans ((Zw _ _ _ _ c3).trans cl))) ?_;clear a1 f8 f9 f5 f6 HS f7;refine Zt ?_;have d4:KeepsOthers W (W.drewN (nq+1)):=yR (yI (Zc _ _) _);have d5:CntX W0 m F P line (some ⟨G,0,none⟩) cp wd tab wideA want join raw (.exit 0) (pre++[x]) (((W.drewN (nq+1)).setCell ⟨F,0,none⟩ (.string (line.extract 0 a0))).setCell ⟨F,2,none⟩ (.bool true)) :=
     ⟨rfl,a0,(fun R=>by rw [zW,ZA];exact HE.out R),CnA.fil (W:=W.drewN (nq+1)) H3.out _,((yI Y.out (nq+1)).setCell (p:=⟨F,0,none⟩) hF _).setCell (p:=⟨F,2,none⟩) hF _⟩
    have HF:=lh d5;have g0:=lh d4;clear d4 d5;gi_wp2;exact⟨(g0.out.trans (ZT _ _ _)).trans (ZT _ _ _),HF.out⟩
   ·have C:=fun R=>(a7.out R).trans (Zf e2);have HE:=lh C;have e3:(q==2)=false:=(by rw [zN];exact e2);clear C a7;gi_wp2;have d6:n≠n+1:=(by omega);have d7:Below m W ((W.drewN nq).setCell ⟨n,0,none⟩ (.int .i64 ((k:Int)+1))):=(yI (Zc m W) nq).setCell (p:=⟨n,0,none⟩) e9 _;refine⟨(yR (yI (Zc _ _) nq)).trans (ZT _ _ _),⟨d7,fun v hv=>(Zw _ _ _ _ d6).trans hv⟩,?_,yA (W:=W.drewN nq) H2.out d6.symm,CnA.other (W:=W.drewN nq) H3.out H1.out (by decide) (by decide) (by decide) _,fun R=>?_,Y.out.trans d7⟩
    ·rw [zJ,y.out];exact yM (W:=W.drewN nq) H1.out _
    ·rw [zW,ZA,HE.out R,zJ,zJ,zK];rfl
  case done =>
   rintro D xs W hD g1 ⟨f,H,d,u,i⟩ j;have a2:yBz line=none:=by
    have:=u [];rw [zq,g1] at this;unfold yBz;rw [this];unfold yCd;rfl
   have X:=d.cells.2.2.2;have I:=d.kept (qE W D (.deferred none)) (fun r e=>by cases e;exact⟨_,j,rfl⟩);have Y:=lh i;have J:=lh I;have HC:=lh a2;clear f H d u i I a2;gi_wp2;refine⟨by simp,.inl ⟨_,_,rfl,Zv j,?_⟩⟩;have M:=a4.out;refine⟨_,results_tmp rfl _ _ _,F,wa,cp,rfl,by omega,?_,yG.rd J.out.2.2,?_⟩
   ·have:yU line=line:=(by unfold yU;rw [HC.out]);rw [this,HC.out];exact J.out.1
   ·exact c7.out.trans ((Y.out.trans (JY (w:=z) (by omega) W D _ _ hD j rfl rfl)).mono (by omega))
  case stop =>
   rintro D c pre W hD g2 ⟨rfl,e,f,d,i⟩ j;have a2:yBz line=some e:=by
    obtain⟨R,hR⟩:=g2;have:=f R;rw [hR] at this;exact this
   have X:=d.cells.2.2.2;have I:=d.kept (qE W D (.deferred none)) (fun r e=>by cases e;exact⟨_,j,rfl⟩);have Y:=lh i;have J:=lh I;have HC:=lh a2;clear f d i I a2;gi_wp2;refine⟨by simp,.inl ⟨_,_,rfl,Zv j,?_⟩⟩;have M:=a4.out;refine⟨_,results_tmp rfl _ _ _,F,wa,cp,rfl,by omega,?_,yG.rd J.out.2.2,?_⟩
   ·have:yU line=line.extract 0 e:=(by unfold yU;rw [HC.out]);rw [this,HC.out];exact J.out.1
   ·exact c7.out.trans ((Y.out.trans (JY (w:=z) (by omega) W D _ _ hD j rfl rfl)).mono (by omega))
def KpL (bs:List Nat) (n₀:Nat) (W W':World):Prop:=Below n₀ W W'∧∀b∈bs,∀o,W.heap[b]? = some o→o.isCells=true→W'.heap[b]? = some o
theorem KpL.trans {a:List Nat} {c:Nat} {A B C:World} (h:KpL a c A B) (k:KpL a c B C):KpL a c A C:=⟨h.1.trans k.1,fun b d o f e=>k.2 b d o (h.2 b d o f e) e⟩
theorem kpL_put {w:World} {i:List Nat} {d:Nat} (j:d≤w.heap.size) (W:World) (l:Nat) (o c:Obj) (k:w.heap.size≤l) (h:W.heap[l]? = some o) (f:o.isCells=false) (hw:o.isWalk=false):KpL i d W (W.putObj l c) :=
 ⟨JY j W l o c k h f hw,fun b n p a g=>by
   have m:b≠l:=fun e=>by
    subst e;rw [h] at a;cases a;rw [f] at g;cases g
   exact ((qE W l c).block b (zH.1 a).1 (fun e=>by cases e;exact m rfl)).trans a⟩
end
section
theorem yOp {t:ByteArray} {a b c d:Nat} (e:a=c) (f:b=d):t.extract a b=t.extract c d:=by rw [e,f]
theorem yK6 (s:ByteArray) (i j:Nat) (b:i≤s.size):(s.extract i s.size).get! j=s.get! (i+j):=by
 show (s.extract i s.size).data[j]! = s.data[i+j]!;by_cases h:i+j<s.size
 ·have a:j<(s.extract i s.size).data.size:=by
   have:=yJ s i b;show j<(s.extract i s.size).size;omega
  rw [JW (s.extract i s.size).data j a,JW s.data (i+j) h];simp [qu]
 ·have a:¬ j<(s.extract i s.size).data.size:=by
   have:=yJ s i b;show ¬ j<(s.extract i s.size).size;omega
  rw [getElem!_neg (s.extract i s.size).data j a,getElem!_neg s.data (i+j) h]
theorem dec_ext (s:ByteArray) (i j:Nat) (a:i≤s.size):Utf8.decode (s.extract i s.size) j=Utf8.decode s (i+j):=by
 rw [JA,JA,yJ s i a,yK6 s i _ a,yK6 s i _ a,yK6 s i _ a,yK6 s i _ a];rw [show s.size-i-j=s.size-(i+j) by omega,←qz,←qz,←qz]
theorem yNb (s:ByteArray):∀(f g i:Nat),s.size≤i+f→s.size≤i+g→yA5 s f i=yA5 s g i
 | 0,0,i,hf,hg=>rfl
 | 0,g+1,i,hf,hg=>by rw [yA5,yA5,Zf (by omega)]
 | f+1,0,i,hf,hg=>by rw [yA5,yA5,Zf (by omega)]
 | f+1,g+1,i,hf,hg=>by
   rw [yA5,yA5];split
   ·rename_i h;have:=Lib.decode_width_pos s i h;rw [yNb s f g _ (by omega) (by omega)]
   ·rfl
theorem yLm (s:ByteArray) (i:Nat) (a:i≤s.size):∀(f j:Nat),yA5 (s.extract i s.size) f j=yA5 s f (i+j)
 | 0,j=>rfl
 | f+1,j=>by
   rw [yA5,yA5,yJ s i a,dec_ext s i j a];by_cases h:i+j<s.size
   ·rw [Zg (by omega),Zg h,yLm s i a f,qz]
   ·rw [Zf (by omega),Zf h]
theorem yJ5 (t:ByteArray) (h:t.size=0):yE t=[]:=by unfold yE;rw [h];rfl
theorem dec_go (t:ByteArray) (h:0<t.size):Utf8.decode t 0=Lib.decodeGo t:=by unfold Lib.decodeGo;rw [Zf (by omega)]
theorem yH5 (t:ByteArray) (h:0<t.size):yE t=yAh t::yE (t.extract (yAa t) t.size):=by
 have a:=yCo t;unfold yE;obtain⟨k,b⟩:∃k,t.size=k+1:=⟨t.size-1,by omega⟩;rw [yLm t (yAa t) a,yJ t _ a];rw [b,yA5,Zg (by omega),dec_go t h,Za,Zl];have c:=yGs t h;show _::yA5 t k (yAa t)=_;rw [yNb t k (k+1-yAa t) (yAa t) (by omega) (by omega)];rfl
inductive Rch:ByteArray→Nat→Prop
 | zero (t:ByteArray):Rch t 0
 | step (t:ByteArray) (k:Nat):0<t.size→yAa t≤k→k≤t.size→Rch (t.extract (yAa t) t.size) (k-yAa t)→Rch t k
theorem ext_all (t:ByteArray):t.extract 0 t.size=t:=by
 apply qq;simp [qu]
theorem runes_split {t:ByteArray} {k:Nat} (h:Rch t k):yE t=yE (t.extract 0 k)++yE (t.extract k t.size):=by
 induction h with
 | zero t=>rw [yJ5 (t.extract 0 0) (by simp [ZV]),zp,ext_all]
 | step t k h1 h2 h3 h4 ih =>
   have i:=yGs t h1;have b:(t.extract 0 k).size=k:=(by simp [ZV];omega);have a:=cut_dec t k (by omega) h3;rw [Zg h2] at a;have c:yAh (t.extract 0 k)=yAh t:=(by unfold yAh;rw [a]);have d:yAa (t.extract 0 k)=yAa t:=(by unfold yAa;rw [a]);have e:=yJ t (yAa t) (by omega);rw [yH5 t h1,ih,yH5 (t.extract 0 k) (by omega),c,d,b,zo];have f:(t.extract 0 k).extract (yAa t) k=(t.extract (yAa t) t.size).extract 0 (k-yAa t):=by
    rw [yA1,yA1];exact yOp (by omega) (by omega)
   have g:t.extract k t.size=(t.extract (yAa t) t.size).extract (k-yAa t) (t.extract (yAa t) t.size).size:=by
    rw [e,yA1];exact yOp (by omega) (by omega)
   rw [f,g]
theorem Rch.one {t:ByteArray} (h:0<t.size):Rch t (yAa t):=Rch.step t _ h (zT _) (yCo t) (by rw [Zk];exact Rch.zero _)
theorem Rch.trans {t:ByteArray} {k m:Nat} (h:Rch t k) (a:Rch (t.extract k t.size) m) (c:k+m≤t.size):Rch t (k+m):=by
 induction h with
 | zero t=>rw [ext_all] at a;rw [Za];exact a
 | step t k a1 a2 a3 a4 ih =>
   have b:=yJ t (yAa t) (by omega);refine Rch.step t _ a1 (by omega) c ?_;have:=ih (by
    rw [b,yA1,show yAa t+(k-yAa t)=k by omega,show min (yAa t+(t.size-yAa t)) t.size=t.size by omega];exact a) (by rw [b];omega)
   rw [show k+m-yAa t=k-yAa t+m by omega];exact this
theorem more_rch (x:Int) (s:ByteArray):∀(f n:Nat) (z:Int) (a:Nat),a≤s.size→Rch s a→Rch s (yFr x s f n z a)
 | 0,_,_,a,ha,h=>h
 | f+1,n,z,a,ha,h=>by
   rw [yFr];split
   ·exact h
   ·rename_i b;split
    ·have c:=yJ s a ha;have d:a≠s.size:=fun e=>b (.inl e);have g:=yCo (s.extract a s.size);exact more_rch x s f _ _ _ (by omega) (h.trans (Rch.one (by omega)) (by omega))
    ·exact h
theorem next_rch (s:ByteArray) (h:0<s.size):Rch s (nextI s):=by
 unfold nextI;rw [Zf (by omega)];split
 ·split
  ·rename_i e;have c:=decR_13 s e.1;have a:=Rch.one h;rw [c] at a;have g:=yJ s 1 (by omega);have d:Lib.decodeGo (s.extract 1 s.size)=(10,1):=by
    rw [←dec_go _ (by omega),JA,yK6 s 1 0 (by omega)];have f:(s.get! (1+0)).toNat=10:=(by rw [Zl,e.2.2];rfl);rw [f];unfold Lib.decodeN;rw [Zg (by omega)]
   have b:yAa (s.extract 1 s.size)=1:=(by unfold yAa;rw [d]);have:=a.trans (Rch.one (t:=s.extract 1 s.size) (by omega)) (by rw [b];omega);rw [b] at this;exact this
  ·exact Rch.one h
 ·exact more_rch _ s 31 1 _ _ (yCo s) (Rch.one h)
theorem yKy (T:ByteArray):∀(f a:Nat),a≤T.size→T.size≤a+f→yE (T.extract a T.size)=((piecesF T f a).map (·.2)).flatMap yE
 | 0,a,ha,hf=>by
   rw [yJ5 _ (by rw [yJ T a ha];omega)];rfl
 | f+1,a,ha,hf=>by
   rw [piecesF];by_cases h:a<T.size
   ·have b:=yJ T a ha;have c:=yY (T.extract a T.size) (by omega);rw [Zg h,Zd,ZK,←yKy T f (a+nextI (T.extract a T.size)) (by omega) (by omega),runes_split (next_rch (T.extract a T.size) (by omega))];generalize nextI (T.extract a T.size)=n at c;have d:(T.extract a T.size).extract 0 n=T.extract a (a+n):=by
     rw [yA1];exact yOp (by omega) (by omega)
    have e:(T.extract a T.size).extract n (T.extract a T.size).size=T.extract (a+n) T.size:=by
     rw [b,yA1];exact yOp (by omega) (by omega)
    rw [d,e]
   ·rw [Zf h,yJ5 _ (by rw [yJ T a ha];omega)];rfl
theorem yJa (T:ByteArray):yE T=((yF T).map (·.2)).flatMap yE:=by
 have:=yKy T T.size 0 (zd _) (by omega);rw [ext_all] at this;exact this
theorem runesI_pos2 (t:ByteArray) (h:0<t.size):0<(yE t).length:=by
 rw [yH5 t h];simp
end
section
open Go.RowKit Go.Proofs Go.Shelf
attribute [local go_sem] qV
structure RowV where
 a:Int
 len:Int
 level:Int
 wide:Int
 fin:Int
deriving DecidableEq
def yJy (r:RowV):List Value:=[r.a,r.len,.int .u8 r.level,r.wide,.int .i8 r.fin]
theorem flat5_get (l:List RowV) (i:Nat) (r:RowV) (h:l[i]? = some r) (k:Nat) (v:Value) (a:(yJy r)[k]? = some v):(l.flatMap yJy)[i*5+k]? = some v:=by
 have b:k<5:=by
  have:=(zG.1 a).1;exact this
 induction l generalizing i with
 | nil=>simp at h
 | cons x l ih =>
   rw [ZK];cases i with
   | zero =>
     have:x=r:=(by simpa using h);subst this;rw [Nat.zero_mul,Za,zt (show k<5 from b)];exact a
   | succ i =>
     rw [zr (show 5≤_ by omega),show (i+1)*5+k-(yJy x).length=i*5+k from by show (i+1)*5+k-5=_;omega];exact ih i (by simpa using h)
def RdR (w:World) (a:Option Addr) (l:List RowV):Prop :=
 l=[]∨∃b off,a=some ⟨b,off,none⟩∧b<w.heap.size∧∀i r,l[i]? = some r→∀k v,(yJy r)[k]? = some v→w.cell? ⟨b,off+i*5+k,none⟩=some v
theorem RdR.at {w:World} {a:Option Addr} {l:List RowV} (h:RdR w a l) (i:Nat) (r:RowV) (d:l[i]? = some r) :
 ∃b c,a=some ⟨b,c,none⟩∧b<w.heap.size∧w.cell? ⟨b,c+i*5,none⟩=some (.int .i64 r.a)∧w.cell? ⟨b,c+i*5+1,none⟩=some (.int .i64 r.len)∧w.cell? ⟨b,c+i*5+2,none⟩=some (.int .u8 r.level) ∧
   w.cell? ⟨b,c+i*5+3,none⟩=some (.int .i64 r.wide)∧w.cell? ⟨b,c+i*5+4,none⟩=some (.int .i8 r.fin):=by
 rcases h with h | ⟨b,c,f,g,e⟩
 ·subst h;simp at d
 ·exact⟨b,c,f,g,e i r d 0 _ rfl,e i r d 1 _ rfl,e i r d 2 _ rfl,e i r d 3 _ rfl,e i r d 4 _ rfl⟩
theorem yE2 {α:Type} {l:List α} {i:Nat} {r:α} (h:l[i]? = some r):l.take (i+1)=l.take i++[r]:=by
 rw [qS,h];rfl
theorem yAu {α:Type} {l:List α} {i:Nat} {r:α} (h:l[i]? = some r):l.drop i=r::l.drop (i+1):=by
 obtain⟨a,b⟩:=zG.1 h;rw [qT a,b]
end
section
def yMv (T:ByteArray) (want:Int) (raw:Bool):Int:=if raw=true then 0 else ((yAx (yE T) want).2:Int)
def yN9 (line:ByteArray) (w tab:Int) (wideA raw:Bool):Rul:=⟨ye line,w,tab,wideA,raw⟩
def yNv (lev:Int) (x:Nat × Nat × Int × Int):RowV:=⟨x.1,x.2.1,lev,x.2.2.1,x.2.2.2⟩
def rowsI (line:ByteArray) (w tab want:Int) (wideA raw:Bool):List RowV :=
 if w<1∨1024<w∨65536<line.size then []
 else (yAm (yN9 line w tab wideA raw) (yU line) (yBz line).isSome ((yU line).size+1) 0 0).map (yNv (yMv (yU line) want raw))
theorem yI0 (r:Rul) (T:ByteArray) (e:Bool):∀(f a n:Nat),yQ T a n→(yAm r T e f a n).length+a≤T.size+1
 | 0,a,n,h=>by have:=h.1;simp [yAm];omega
 | f+1,a,n,h=>by
   obtain⟨b,_,c,_⟩:=yI8 r T e a n h;rw [yAm,zb];split
   ·rename_i d;have:=c d;have:=yI0 r T e f _ _ b;omega
   ·have:=h.1;simp;omega
theorem rows_len (a:ByteArray) (w b e:Int) (c d:Bool):(rowsI a w b e c d).length≤65537:=by
 unfold rowsI;split
 ·simp
 ·have f:=yI0 (yN9 a w b c d) (yU a) (yBz a).isSome ((yU a).size+1) 0 0 (yQ.zero _);have g:=(yCz a).1;rw [zK];omega
end
end Go.Proofs.YtncplikdjcmoeaaGreatDoor
