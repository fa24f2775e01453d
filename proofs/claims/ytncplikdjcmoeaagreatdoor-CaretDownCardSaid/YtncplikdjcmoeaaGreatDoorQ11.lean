/- Lemmas, part 11: no further condition than each states. -/
import Derived.Test.YtncplikdjcmoeaaGreatDoorQ10
namespace Go.Proofs.YtncplikdjcmoeaaGreatDoor
set_option linter.unusedVariables false
set_option linter.unusedSimpArgs false
set_option maxRecDepth 100000
set_option maxHeartbeats 4000000
section
open Go.RowKit Go.Proofs
def clI (cs:List ByteArray) (k:Nat):ByteArray:=cs.getD k ⟨#[]⟩
def soI (cs:List ByteArray) (k:Nat):Int:=yDb (clI cs k)
def joinB (cs:List ByteArray) (first i:Nat):Bool :=
 (decide (soI cs first=1)&&decide (soI cs i=1)) ||
   ((decide (3≤soI cs (i-1))||decide (first<i-1))&&(decide (3≤soI cs first)&&(decide (3≤soI cs i) ||
     (decide (soI cs i<3)&&decide (3≤soI cs (i-1))&&decide (i+1<cs.length)&&decide (yGm (clI cs i)=soI cs (i-1))&&decide (soI cs (i+1)=soI cs (i-1))))))
def yGk (cs:List ByteArray) (first:Nat):Nat→Nat→Nat→Nat × Nat
 | 0,i,at'=>(i,at')
 | f+1,i,at'=>if i<cs.length∧joinB cs first i=true then yGk cs first f (i+1) (at'+(clI cs i).size) else (i,at')
def yDg (cs:List ByteArray):Nat→Nat→Nat→List (Nat × Nat)
 | 0,_,_=>[]
 | f+1,i,at'=>if i<cs.length then ((yGk cs i cs.length (i+1) (at'+(clI cs i).size)).2,i)::yDg cs f (yGk cs i cs.length (i+1) (at'+(clI cs i).size)).1 (yGk cs i cs.length (i+1) (at'+(clI cs i).size)).2 else []
def yJn (s:ByteArray):List ByteArray:=(yF s).map (·.2)
def segsI (s:ByteArray):List (Nat × Nat):=yDg (yJn s) (yJn s).length 0 0
def yBt (s:ByteArray):List Nat:=(segsI s).map (·.1)
def yBy (s:ByteArray):List Int:=(segsI s).map fun p=>soI (yJn s) p.2
def posI (cs:List ByteArray) (i:Nat):Nat:=((cs.take i).map (·.size)).sum
theorem yMb (cs:List ByteArray) (i:Nat) (h:i<cs.length):posI cs (i+1)=posI cs i+(clI cs i).size:=by
 unfold posI clI;rw [JI h,zW,List.sum_append];simp [zI,zF h]
theorem yMc (cs:List ByteArray):∀(d i:Nat),i+d≤cs.length→posI cs i≤posI cs (i+d)
 | 0,i,_=>zT _
 | d+1,i,h=>by
   have a:=yMc cs d i (by omega);have b:=yMb cs (i+d) (by omega);rw [show i+(d+1)=i+d+1 by omega];omega
theorem yG3 (cs:List ByteArray):∀(f i a:Nat),(yDg cs f i a).length≤f
 | 0,_,_=>zT _
 | f+1,i,a=>by
   rw [yDg];split
   ·rw [zb];have:=yG3 cs f (yGk cs i cs.length (i+1) (a+(clI cs i).size)).1 (yGk cs i cs.length (i+1) (a+(clI cs i).size)).2;omega
   ·exact zd _
theorem yPx (s:ByteArray):∀(f a:Nat),a≤s.size→s.size-a≤f→(((piecesF s f a).map (·.2)).map (·.size)).sum=s.size-a
 | 0,a,h,h2=>by
   rw [piecesF];show 0=_;omega
 | f+1,a,h,h2=>by
   rw [piecesF];split
   ·rename_i c;have d:=yJ s a h;have e:=yY (s.extract a s.size) (by omega);have b:(s.extract a (a+nextI (s.extract a s.size))).size=nextI (s.extract a s.size):=(by simp [ZV];omega);rw [Zd,Zd,List.sum_cons,yPx s f _ (by omega) (by omega)];dsimp only;rw [b];omega
   ·show 0=_;omega
theorem posI_all (s:ByteArray):posI (yJn s) (yJn s).length=s.size:=by
 unfold posI yJn;rw [Zp];have:=yPx s s.size 0 (zd _) (by omega);exact this.trans (by omega)
theorem wends_len (s:ByteArray):(yBt s).length≤s.size:=by
 unfold yBt segsI;rw [zK];refine zY (yG3 _ _ _ _) ?_;unfold yJn;rw [zK];exact yAj s
end
section
open Go.RowKit Go.Proofs Go.Shelf
def yAs {β:Type} (p m B:Nat) (J:β→World→Prop):Prop :=
 ∀s X Y row,J s X→X.grownBy Y row→(∀r,row=some r→(p≤r∧r<p+m)∨(B≤r∧∃o:Obj,X.heap[r]? = some o∧o.isCells=false))→J s Y
theorem yAs.grow {β:Type} {p m B:Nat} {J:β→World→Prop} (h:yAs p m B J) {s:β} {X Y:World} (b:J s X) (a:Below X X Y):J s Y :=
 h s X Y none b ⟨a.os,a.tape,a.output,a.size,fun k c _=>a.block k c⟩ (fun r e=>by cases e)
theorem yAs.put {β:Type} {p m B:Nat} {J:β→World→Prop} (h:yAs p m B J) {s:β} {X:World} {l:Nat} {o:Obj} (a:Obj) (b:J s X) (c:X.heap[l]? = some o) (d:o.isCells=false) (f:B≤l):J s (X.putObj l a) :=
 h s X _ (some l) b (qE X l a) (fun r e=>by cases e;exact .inr ⟨f,o,c,d⟩)
theorem yAs.cell {β:Type} {p m B:Nat} {J:β→World→Prop} (h:yAs p m B J) {s:β} {X:World} {k:Nat} (v:Value) (a:J s X) (b:p≤k∧k<p+m):J s (X.setCell ⟨k,0,none⟩ v) :=
 h s X _ (some k) a (Zu X k v) (fun r e=>by cases e;exact .inl b)
def yF9 {α:Type} (m:Nat) (P:Program) (g:Nat) (lb:Array Value) (encs:α→Array Value) (Kp:World→World→Prop) (S Sp:List α→Prop) (w:World):Prop :=
 ∀(n l:Nat) (J Jx:List α→World→Prop) (W:World),Below w w W→yAs W.heap.size m W.heap.size J→yAs W.heap.size m W.heap.size Jx →
   (∀pre x W1,J pre W1→Sp (pre++[x])→W.heap.size+m≤W1.heap.size→YieldAt Fence.wide n P l (encs x) W1 fun e W'=>KeepsFrom W.heap.size W1 W'∧((e=.returned (.bool true)∧J (pre++[x]) W'∧Kp W1 W')∨(e=.returned (.bool false)∧Jx (pre++[x]) W'))) →
   J [] W→CallsIn Fence.wide n P g (#[.func (.yield l) #[] #[]]++lb) W fun e W'=>(∃v,e=.returned v)∧((∃xs,S xs∧J xs W')∨(∃pre,Sp pre∧Jx pre W'))
theorem yF8 {n m:Nat} {P:Program} {l:Nat} {f:FuncId} {a:Array Value} {assign body:Code} {w:World} {R:Ending→World→Prop} (h:RoundIn Fence.wide n P l f a assign body w R) (k:Option Nat):RoundIn { Fence.wide with round:=k } m P l f a assign body w R:=⟨h.1,fun c cs _=>h.2 c cs (fun d b=>by cases b)⟩
section
variable {α:Type} {n m:Nat} {P:Program} {g:Operand} {ps:Array Tmp} {assign body:Code} {a:Act} {w:World}
def yBp (fn:FuncId) (tmps:Array Value) (ps:Array Tmp) (assign body:Code) (D:Nat) (st:LoopState) (pe:Option Code):Loop:={ state:=st,pending:=pe,fn,tmps,params:=ps,assign,body,defers:=D }
theorem yCt {Q:Exit→Act→World→Prop} (h1:1≤n) {gf:Nat} {lb:Array Value} (hg:a.eval g=.func (.func gf) #[] lb) (b3:Fence.wide.fn gf) (eg:∀args w,(callFunc gf args).run P w=.ok (.enter gf args) w)
 {R:α→Array Value} {F:World→World→Prop} {S Sp:List α→Prop} {w0:World} (b4:yF9 m P gf lb R F S Sp w0) (a2:∀{A B C:World},F A B→F B C→F A C)
 (a1:∀(W:World) (l:Nat) (o H:Obj),w.heap.size≤l→W.heap[l]? = some o→o.isCells=false→o.isWalk=false→F W (W.putObj l H)) (a4:Below w0 w0 w) (b5:∀x,(R x).size=ps.size)
 (I:List α→World→Prop) (z:Code→List α→World→Prop) (hI:yAs (w.heap.size+2) m w.heap.size I) (T:∀c,yAs (w.heap.size+2) m w.heap.size (z c)) (h0:I [] w) (a₁:α→Act)
 (b6:∀(l:Nat) (x:α) (W:World) (K:Act→World→Prop),K (a₁ x) W →
   assign.wpIn (Fence.wide.inRound l) (n-1) P (Exit.then K (fun _ _ _=>False)) { tmps:=(ps.zip (R x)).foldl (fun t (p,v)=>t.setIfInBounds p v) a.tmps,defers:=[] } W)
 (a5:∀(l:Nat) (pre:List α) (x:α) (W:World),I pre W→Sp (pre++[x])→w.heap.size+2+m≤W.heap.size→body.wpIn (Fence.wide.inRound l) (n-1) P (ownPostG w.heap.size F I z (pre++[x]) W) (a₁ x) W)
 (a6:∀(D:Nat) (xs:List α) (W:World),w.heap.size≤D→S xs→I xs W→W.heap[D]? = some (.deferred (some []))→Q .normal { a with defers:={ target:=.collected D,args:=#[] }::a.defers } W)
 (a7:∀(D:Nat) (c:Code) (pre:List α) (W:World),w.heap.size≤D→Sp pre→z c pre W→W.heap[D]? = some (.deferred (some []))→c.wpIn Fence.wide n P Q { a with defers:={ target:=.collected D,args:=#[] }::a.defers } W) :
 (Code.rangeFunc g ps assign body).wpIn Fence.wide n P Q a w:=by
 refine wpIn_rangeFunc ?_;intro b b7;obtain⟨D,U⟩:=nm (w.heap.size);have a8:=run_enterLoop_outer (P:=P) (w:=w) b a.tmps ps assign body;obtain⟨i,L⟩:=nm ((w.alloc (.deferred (some []))).alloc (.loop (yBp b a.tmps ps assign body D .ready none)));have c6:i.heap.size=D+2:=by rw [←L,zM,zM,U]
 have b8:i.heap[D+1]? = some (.loop (yBp b a.tmps ps assign body D .ready none)):=by
  have h:=zL (w.alloc (.deferred (some []))) (.loop (yBp b a.tmps ps assign body D .ready none));rw [zM,U,L] at h;exact h
 have b9:i.heap[D]? = some (.deferred (some [])):=by
  have h:=qA (w.alloc (.deferred (some []))) (.loop (yBp b a.tmps ps assign body D .ready none)) D (by rw [zM];omega);rw [L] at h;rw [h,←U];exact zL w _
 have a9:Below w w i:=by rw [←L];exact ((Zc _ w).alloc (zT _) _).alloc (by rw [zM];omega) _
 have c0:I [] i:=hI.grow h0 a9;rw [U] at a8 hI T a5 a6 a7 a1;refine⟨D+1,[{ target:=.collected D,args:=#[] }],i,{ target:=.fn (.func gf) lb,args:=#[.func (.yield (D+1)) #[] #[]] },i,gf,#[.func (.yield (D+1)) #[] #[]]++lb,i,a8.trans (by rw [←L];rfl),by simp only [resolve,hg];simp [go_sem],fun f' b0=>by simp [Target.leads] at b0;subst b0;exact b3,by simp [invoke,go_sem,eg],fun _=>h1,?_⟩;have b1:∀(J:List α→World→Prop),yAs (D+2) m D J→∀(st:LoopState) (pe:Option Code),yAs i.heap.size m i.heap.size (fun pre W=>J pre W∧W.heap[D+1]? = some (.loop (yBp b a.tmps ps assign body D st pe))∧W.heap[D]? = some (.deferred (some []))):=fun J hJ st pe s X Y row M V f=>by
  have q:∀k,k<D+2→∀o,X.heap[k]? = some o→Y.heap[k]? = some o:=fun k q o Z=>(V.block k (zH.1 Z).1 (fun e=>by rcases f k e.symm with h | ⟨h,_⟩ <;> omega)).trans Z;exact⟨hJ s X Y row M.1 V (fun r e=>(f r e).elim (fun h=>.inl (by omega)) (fun ⟨h,h2⟩=>.inr ⟨by omega,h2⟩)),q _ (by omega) _ M.2.1,q _ (by omega) _ M.2.2⟩
 refine (b4 (n-1) (D+1) (fun pre W=>I pre W∧W.heap[D+1]? = some (.loop (yBp b a.tmps ps assign body D .ready none))∧W.heap[D]? = some (.deferred (some [])))
  (fun pre W=>∃c,z c pre W∧W.heap[D+1]? = some (.loop (yBp b a.tmps ps assign body D .done (some c)))∧W.heap[D]? = some (.deferred (some []))) i (a4.trans (a9.mono a4.size)) (b1 I hI _ _)
  (fun s X Y row ⟨c,M⟩ V f=>⟨c,b1 (z c) (T c) _ _ s X Y row M V f⟩) ?_ ⟨c0,b8,b9⟩).mono ?_
 ·rintro pre x W ⟨N,j,q⟩ c1 c7;have hy:=run_yield (P:=P) (args:=R x) j (b5 x);refine⟨b,_,assign,body,hy,roundIn_of_wpIn b7 (b6 _ x W _ ⟨_,run_beginRound j rfl,?_⟩)⟩;have O:(W.putObj (D+1) (.loop (yBp b a.tmps ps assign body D .busy none))).heap[D+1]? = some (.loop (yBp b a.tmps ps assign body D .busy none)):=JG (zH.1 j).1;have b2:(W.putObj (D+1) (.loop (yBp b a.tmps ps assign body D .busy none))).heap[D]? = some (.deferred (some [])):=(qB (by omega)).trans q;have c2:D+2+m≤(W.putObj (D+1) (.loop (yBp b a.tmps ps assign body D .busy none))).heap.size:=(by have:=(qE W (D+1) (.loop (yBp b a.tmps ps assign body D .busy none))).size;omega);have c3:=a1 W (D+1) _ (.loop (yBp b a.tmps ps assign body D .busy none)) (by omega) j rfl rfl;refine wpIn_mono (a5 _ pre x _ (hI.put _ N j rfl (by omega)) c1 c2) ?_;rintro e a3 u G;have a0:∀H,KeepsFrom D (W.putObj (D+1) (.loop (yBp b a.tmps ps assign body D .busy none))) u→KeepsFrom i.heap.size W (u.putObj (D+1) H):=fun H d =>
   ⟨by have h1:=(qE W (D+1) (.loop (yBp b a.tmps ps assign body D .busy none))).size;have h2:=(qE u (D+1) H).size;have h3:=d.size;omega,
     fun k o q Z hc=>(qB (by omega)).trans (d.same k o (by omega) ((qB (by omega)).trans Z) hc)⟩
  have left:∀c,(∃v,(Instr.endRound (D+1) (some c)).run P u=.ok v (u.putObj (D+1) (.loop (yBp b a.tmps ps assign body D .done (some c))))∧v=.bool false)→KeepsFrom D (W.putObj (D+1) (.loop (yBp b a.tmps ps assign body D .busy none))) u→z c (pre++[x]) u →
   ∃c',z c' (pre++[x]) (u.putObj (D+1) (.loop (yBp b a.tmps ps assign body D .done (some c))))∧(u.putObj (D+1) (.loop (yBp b a.tmps ps assign body D .done (some c)))).heap[D+1]? = some (.loop (yBp b a.tmps ps assign body D .done (some c')))∧(u.putObj (D+1) (.loop (yBp b a.tmps ps assign body D .done (some c)))).heap[D]? = some (.deferred (some [])):=fun c _ d y=>by
   have E:=d.same _ _ (by omega) O rfl;exact⟨c,(T c).put _ y E rfl (by omega),JG (zH.1 E).1,(qB (by omega)).trans (d.same _ _ (zT _) b2 rfl)⟩
  cases e with
  | normal =>
    obtain⟨d,c4,y⟩:=G;have E:=d.same _ _ (by omega) O rfl;exact⟨_,_,run_endRound (P:=P) none E,a0 _ d,.inl ⟨rfl,⟨hI.put _ y E rfl (by omega),JG (zH.1 E).1,(qB (by omega)).trans (d.same _ _ (zT _) b2 rfl)⟩,a2 (a2 c3 c4) (a1 _ _ _ _ (by omega) E rfl rfl)⟩⟩
  | ret =>
    obtain⟨d,y⟩:=G;have f:=run_endRound (P:=P) (some .ret) (d.same _ _ (by omega) O rfl);exact⟨_,_,f,a0 _ d,.inr ⟨rfl,left .ret ⟨_,f,rfl⟩ d y⟩⟩
  | exit id =>
    obtain⟨d,y⟩:=G;have f:=run_endRound (P:=P) (some (.exit id)) (d.same _ _ (by omega) O rfl);exact⟨_,_,f,a0 _ d,.inr ⟨rfl,left (.exit id) ⟨_,f,rfl⟩ d y⟩⟩
  | goto t =>
    obtain⟨d,y⟩:=G;have f:=run_endRound (P:=P) (some (.goto t)) (d.same _ _ (by omega) O rfl);exact⟨_,_,f,a0 _ d,.inr ⟨rfl,left (.goto t) ⟨_,f,rfl⟩ d y⟩⟩
  | panic ch=>exact G.elim
  | outgrown=>exact G.elim
 ·rintro e W2 ⟨⟨v,rfl⟩,(⟨xs,hS,N,j,q⟩ | ⟨pre,c5,c,N,j,q⟩)⟩
  ·exact⟨none,_,run_endLoop (P:=P) j (fun h=>by cases h),a6 _ xs _ (zT _) hS (hI.put _ N j rfl (by omega)) ((qB (by omega)).trans q)⟩
  ·exact⟨some c,_,run_endLoop (P:=P) j (fun h=>by cases h),a7 _ c pre _ (zT _) c5 ((T c).put _ N j rfl (by omega)) ((qB (by omega)).trans q)⟩
end
end
section
open Go.RowKit Go.Proofs Go.Shelf
attribute [local go_sem] qV
theorem pieces1_inC (n:Nat) (l k i:Nat) (s:ByteArray) (hs:s.size≤9223372036854775807) (F:Tryz.lays197_ren.g 3<i) (G:Tryz.lays197_ren.g 4<i) (J H:List (yO s)→World→Prop) (W:World) (a1:i≤W.heap.size) (I:yAs W.heap.size 0 W.heap.size J)
 (K:∀pre x o,J pre o→(pre++[x]).map (·.1) <+: yF s→W.heap.size≤o.heap.size→YieldAt Fence.wide n Tryz.prog l (yPy x.1) o fun e d=>KeepsFrom W.heap.size o d ∧
   ((e=.returned (.bool true)∧J (pre++[x]) d∧KpB k i o d)∨(e=.returned (.bool false)∧H (pre++[x]) d)))
 (a2:W.cell? ⟨k,0,none⟩=some (.string s)) (L:T8 W) (h0:J [] W) :
 CallsIn Fence.wide n Tryz.prog 124 #[.func (.yield l) #[] #[],.pointer (some ⟨k,0,none⟩)] W fun e d=>(∃v,e=.returned v) ∧
  ((∃M:List (yO s),M.map (·.1)=yF s∧J M d)∨(∃pre:List (yO s),pre.map (·.1) <+: yF s∧H pre d)):=by
 have a3:=lh (fun (w':World) (p:Below i W w')=>L.keep F G p);have HY:=lh K;have HJ:=lh I;clear F G L K I;refine qG.2 ((qG (n:=4)).1 ?_);refine callsIn_of_wp Tryz.func124 rfl trivial ?_ rfl;simp only [Tryz.ntmps124,qW,zb,zn,Nat.reduceAdd,Nat.reduceSub,qX,qY,qZ,qd,zp,zo]
 gi_wp2
 gi_loopw [3,4] (fun u3 _ wr=>∃(a f:Nat) (pre:List (yO s)),u3=.int .i64 a∧a≤s.size∧s.size≤a+f∧yF s=pre.map (·.1)++piecesF s f a∧J pre wr∧W.heap.size≤wr.heap.size∧Below i W wr∧wr.cell? ⟨k,0,none⟩=some (.string s))
  (fun u3 _ _=>s.size-(intOf u3).toNat)
 case atStart=>exact⟨0,s.size,[],rfl,zd _,by omega,rfl,h0,zT _,Zc _ _,a2⟩
 case round =>
  obtain⟨a,f,pre,rfl,ha,N,b,O,P,p,Q⟩:=hrel;by_cases R:a<s.size
  ·obtain⟨t,r⟩:=nm (s.extract a s.size);have S:t.size=s.size-a:=(by rw [←r];exact yJ s a ha);have A:=yY t (by omega);obtain⟨m,u⟩:=nm (nextI t);obtain⟨f,rfl⟩:∃g,f=g+1:=⟨f-1,by omega⟩;rw [piecesF,Zg R,r,u] at b;rw [u] at A;obtain⟨e,B⟩:=nm (a+m);rw [B] at b;obtain⟨c,w⟩:=nm (s.extract a e);rw [w] at b;have T:=lh (yId t wr (a3.out wr p) (by omega));rw [u] at T;have a4:a+c.size≤s.size:=(by rw [←w];simp [ZV];omega);obtain⟨j,U⟩:∃j:yO s,j.1=(a,c):=⟨⟨(a,c),a4⟩,rfl⟩;have y:=lh U;clear U;have V:(pre++[j]).map (·.1) <+: yF s:=⟨piecesF s f e,by rw [b,zW,zZ,ZA,y.out];rfl⟩;have z:=lh b;have HT:=lh r;have HC:=lh w;have HL:=lh V;have g0:(0:Int)≤(a:Int):=(by omega);have g1:(a:Int)<(s.size:Int):=(by omega);have g2:(a:Int)≤(s.size:Int):=(by omega);have g3:(e:Int)≤(s.size:Int):=(by omega);have g4:(a:Int)≤(e:Int):=(by omega);have ge:(0:Int)≤(e:Int):=(by omega);have C:wrap64 ((a:Int)+(m:Int))=(e:Int):=(by unfold wrap64;omega);have X:=lh B;have Y:=lh A;have HZ:=lh S;have HF:=lh N;clear b r u w V B A S N;gi_wp2;refine⟨trivial,?_⟩;rw [HT.out];refine (qG.2 T.out).mono ?_;rintro e' Z ⟨rfl,h⟩;have a5:=HJ.out.grow O h;have a6:Z.cell? ⟨k,0,none⟩=some (.string s):=yB h (yD Q) Q;obtain⟨fn,b3,assign,body,q,hR⟩:=HY.out pre j Z a5 HL.out (zY P h.size);rw [y.out] at q;dsimp only [yPy] at q;rw [←HC.out] at q;have D:=lh hR;clear hR;gi_wp2;refine (yF8 D.out none).mono ?_;rintro e' W3 ⟨a7,(⟨rfl,a8,E⟩ | ⟨rfl,a9⟩)⟩
   ·have b0:=p.trans ((h.mono (zY a1 p.size)).trans E.1);have b1:=E.2 _ a6;have b2:=h.size;clear q D h E;gi_wp2;go_roundw
    case rel=>exact⟨e,f,pre++[j],by first | rfl | rw [C] | simp [C],by omega,by have:=HF.out;have:=X.out;have:=Y.out;omega,by rw [z.out,zW,zZ,Zd,y.out];rfl,a8,zY P (zY b2 a7.size),b0,b1⟩
    case measure =>
     have e1:(intOf (Value.int IntKind.i64 (wrap64 ((a:Int)+(m:Int))))).toNat=e:=(by rw [C];rfl);have e2:(intOf (Value.int IntKind.i64 (a:Int))).toNat=a:=rfl;rw [e1,e2];exact less_away X.out Y.out.1 R
   ·clear q D h;gi_wp2;refine qC (results_none rfl _ _ _) rfl ?_;exact⟨⟨_,rfl⟩,.inr ⟨pre++[j],⟨piecesF s f e,by rw [z.out,zW,zZ,Zd,y.out];rfl⟩,a9⟩⟩
  ·obtain rfl:a=s.size:=(by omega);have a0:yF s=pre.map (·.1):=by
    rw [b];cases f with
    | zero=>rw [piecesF,zq]
    | succ f=>rw [piecesF,Zf (by omega),zq]
   have z:=lh a0;clear b a0;gi_wp2
   go_end0
   exact⟨⟨_,rfl⟩,.inl ⟨pre,z.out.symm,O⟩⟩
theorem pieces_stopsC (b a:Nat) (s:ByteArray) (i:s.size≤9223372036854775807) (d:Tryz.lays197_ren.g 3<a) (e:Tryz.lays197_ren.g 4<a) (w:World) (f:a≤w.heap.size)
 (h:w.cell? ⟨b,0,none⟩=some (.string s)) (j:T8 w) :
 yF9 0 Tryz.prog 124 #[.pointer (some ⟨b,0,none⟩)] (fun x:yO s=>yPy x.1) (KpB b a) (fun xs=>xs.map (·.1)=yF s) (fun pre=>pre.map (·.1) <+: yF s) w:=fun n l J k W c m p o h0 =>
 pieces1_inC n l b a s i d e J k W (zY f c.size) m o (yB c (yD h) h) (j.keep d e (c.mono f)) h0
end
section
open Go Go.RowKit
section
variable {P:Program} {ops ops':Array Oper} {Q Q':Exit→Act→World→Prop} {md:Region.Mode} {F:Fence} {n:Nat}
theorem yQu {o:Oper} {a:Act} {w:World} {K:Act→World→Prop} (c:∀e a w,Q' e a w→e=.normal) (h:o.wpIn F n P a w K Q'):o.wpIn F n P a w K Q:=by
 unfold Oper.wpIn at *;refine⟨h.1,?_⟩;have h:=h.2;generalize (o.semAt F.round a.eval).run P w=r at *;have d:¬ LetsOut Q':=fun ⟨g,w',h3⟩=>by have:=c _ _ _ h3;cases this
 cases r with
 | ok x w' =>
   cases x <;> simp only [Oper.uponIn] at h ⊢ <;>
    first
     | exact h
     | exact⟨h.1,CallsIn.mono h.2 (fun e f b=>by cases e <;> first | exact b | (have:=c _ _ _ b;cases this) | exact qF b d)⟩
     | exact⟨h.1,RoundIn.mono h.2 (fun e f b=>by cases e <;> first | exact b | (have:=c _ _ _ b;cases this) | exact qF b d)⟩
 | halt x w'=>cases x <;> simp only [Oper.uponIn] at h ⊢ <;> first | exact h | (have:=c _ _ _ h;cases this)
theorem oper_wide {o:Oper} {a:Act} {w:World} {K:Act→World→Prop} (d:∀c,o.op≠.defer c) (h:o.wp P a w K Q):o.wpIn Fence.wide n P a w K Q:=by
 unfold Oper.wpIn;refine⟨fun _ _=>trivial,?_⟩;rw [Oper.semAt_eq _ _ _ d];unfold Oper.wp at h;generalize (execOp a.eval o).run P w=x at *;cases x with
 | ok m w' =>
   cases m <;> simp only [Oper.upon] at h <;> simp only [Oper.uponIn]
   case value=>exact h
   case skip=>exact h
   case defer=>exact h
   case enter f args =>
    refine⟨(fun b=>by cases b),(qG.2 h).mono fun e i g=>?_⟩;cases e <;> exact g
   case row row args =>
    exact⟨(fun b=>by cases b),fun c cs _=>let ⟨v,w',r,s⟩:=h c cs;⟨v,w',r,stepsIn_wide.2 s⟩⟩
 | halt y w'=>cases y <;> simp only [Oper.upon] at h <;> simp only [Oper.uponIn] <;> exact h
def headsB (md:Region.Mode) (ops ops':Array Oper) (r:Nat):Nat→List Bool→Bool
 | 0,L=>L.all id
 | f+1,L=>if L.all id then (Region.ready md ops' L.toArray).isEmpty
   else decide (Region.ready md ops (L++List.replicate r false).toArray=Region.ready md ops' L.toArray)&&!(Region.ready md ops' L.toArray).isEmpty&&(Region.ready md ops' L.toArray).all fun i=>headsB md ops ops' r f (L.set i true)
def unguardB (l:List Oper):Bool:=l.all fun o=>o.guard.isNone&&match o.op with | .defer _=>false | _=>true
theorem yPz:∀(l:List Bool),l.all id=true→l=List.replicate l.length true
 | [],_=>rfl
 | b::l,h=>by
   simp only [List.all_cons,ZU,id] at h;rw [zb,JN,h.1,←yPz l h.2]
theorem yQm {m r:Nat} (p:∀(o:Oper) (a:Act) (w:World) (K:Act→World→Prop),(∀c,o.op≠.defer c)→o.wp P a w K Q'→o.wpIn F n P a w K Q')
 (f:∀e a w,Q' e a w→e=.normal∧∀fuel,r≤fuel→wpAnyIn F n P md ops Q fuel (List.replicate m true++List.replicate r false).toArray a w)
 (q:∀(i:Nat) (o:Oper),ops'[i]? = some o→ops[i]? = some o∧o.guard=none∧∀c,o.op≠.defer c) (s:ops'.size=m)
 : ∀(fuel:Nat) (L:List Bool) (a:Act) (w:World),headsB md ops ops' r fuel L=true→L.length=m→wpAny P md ops' Q' fuel L.toArray a w→wpAnyIn F n P md ops Q (fuel+r) (L++List.replicate r false).toArray a w
 | 0,L,a,w,hB,hL,h=>by
   have:=yPz L hB;rw [this,hL];exact (f _ _ _ h.2).2 _ (by omega)
 | fuel+1,L,a,w,hB,hL,h=>by
   have b:=hB;rw [headsB] at b;by_cases j:L.all id=true
   ·rw [Zg j] at b;have:=yPz L j;rw [this,hL];exact (f _ _ _ (h.1 (by simpa using b))).2 _ (by omega)
   ·rw [Zf j] at b;simp only [ZU,ZX,qR,List.isEmpty_eq_false_iff] at b;obtain⟨b,k⟩:=b;have k:=Zs.1 k;rw [show fuel+1+r=(fuel+r)+1 by omega];refine⟨fun h0=>qF (b.1▸h0) b.2,fun i g=>?_⟩;rw [b.1] at g;have d:=h.2 i g;obtain⟨_,o,l,_⟩:=mem_ready.1 g;obtain⟨u,v,x⟩:=q i o l;have y:i<L.length:=(by rw [hL,←s];exact (zH.1 l).1);unfold wpOp at d;rw [l] at d;dsimp only at d;unfold wpOpIn;rw [u];dsimp only;rw [Zg (by unfold Region.wanted;rw [v])] at d ⊢;rcases d with d | ⟨_,D,w',z⟩
    ·refine yQu (fun e a w A=>(f e a w A).1) (p o a w _ x (Oper.wp_mono (fun B C t=>?_) d));rw [zg] at t;rw [zg,List.set_append_left _ _ y];exact yQm p f q s fuel (L.set i true) B C (k i g) (by simpa using hL) t
    ·have:=(f _ _ _ z).1;cases this
def restB (md:Region.Mode) (ops:Array Oper):Nat→Nat→Bool
 | k,0=>(Region.ready md ops (List.replicate k true).toArray).isEmpty
 | k,j+1=>decide (Region.ready md ops (List.replicate k true++List.replicate (j+1) false).toArray=[k])&&restB md ops (k+1) j
theorem rest_walk:∀(l:List Oper) (k:Nat) (a:Act) (w:World),(∀j,l[j]? = ops[k+j]?)→restB md ops k l.length=true→wpListIn F n P ops Q l a w →
 ∀fuel,l.length≤fuel→wpAnyIn F n P md ops Q fuel (List.replicate k true++List.replicate l.length false).toArray a w
 | [],k,a,w,_,hB,h,fuel,_=>by
   have c:Region.ready md ops (List.replicate k true++List.replicate ([]:List Oper).length false).toArray=[]:=by
    simpa [restB] using hB
   cases fuel with
   | zero=>exact⟨c,h⟩
   | succ fuel=>exact⟨fun _=>h,fun i b=>by rw [c] at b;cases b⟩
 | o::l,k,a,w,he,hB,h,fuel,hf=>by
   simp only [zb,restB,ZU,ZX] at hB;cases fuel with
   | zero=>simp at hf
   | succ fuel =>
     rw [zb];refine⟨fun h0=>(by rw [hB.1] at h0;cases h0),fun i b=>?_⟩;rw [hB.1] at b;obtain rfl:i=k:=(by simpa using b);have h0:ops[i]? = some o:=(by simpa using (he 0).symm);have d:∀a w,wpListIn F n P ops Q l a w→wpAnyIn F n P md ops Q fuel ((List.replicate i true++List.replicate (l.length+1) false).toArray.setIfInBounds i true) a w:=fun a w e=>by
      have:=rest_walk l (i+1) a w (fun j=>by have:=he (j+1);simpa [qz,Nat.add_comm 1 j] using this) hB.2 e fuel (by simpa using hf);rw [zg,qm _ _ (by simp)];simp only [List.length_replicate,Zk,JN,zi];rw [List.replicate_succ'] at this;simpa using this
     unfold wpOpIn;rw [h0];unfold wpListIn at h;dsimp only;split
     ·rename_i hw;rw [Zg hw] at h;exact Oper.wpIn_mono d h
     ·rename_i hw;rw [Zf hw] at h;exact⟨h.1,d _ _ h.2⟩
def regY (m:Nat) (l:List Oper):Bool:=decide (m≤l.length)&&unguardB (l.take m)&&Region.lexB .any (l.take m).toArray&&headsB .any l.toArray (l.take m).toArray (l.length-m) m (List.replicate m false)&&restB .any l.toArray m (l.length-m)
theorem yEp {id:Nat} {a:Act} {w:World} {l:List Oper} (m:Nat)
 (x:∀(Q':Exit→Act→World→Prop) (o:Oper) (a:Act) (w:World) (K:Act→World→Prop),(∀c,o.op≠.defer c)→o.wp P a w K Q'→o.wpIn F n P a w K Q')
 (y:P.follows .mixedOrders=true) (g:regY m l=true)
 (h:wpQuiet P (l.take m).toArray (fun w'=>∃k,w'=w.drewN k) (fun z=>∀w',(∃k,w'=w.drewN k)→wpListIn F n P l.toArray Q (l.drop m) z w') (l.take m) a):(Code.region id l.toArray true).wpIn F n P Q a w:=by
 unfold regY at g;simp only [ZU,ZX] at g;obtain⟨⟨⟨⟨s,A⟩,p⟩,B⟩,D⟩:=g;simp only [Region.lexB,ZU] at p;have t:(l.take m).length=m:=by simp;omega
 refine wpIn_region_any y ?_;have E:=wpAnyQ_lex (C:=fun w'=>∃k,w'=w.drewN k) (md:=.any) p.1 (l.take m) 0 (Array.replicate m false) a (by simp) (by simpa [t] using p.2) h;have hw:=wpAny_of_quiet (Q':=fun e a w'=>e=.normal∧(∃k,w'=w.drewN k)∧wpListIn F n P l.toArray Q (l.drop m) a w') (fun u q v G=>⟨rfl,v,G q v⟩) _ _ _ _ ⟨1,rfl⟩ E;have:=yQm (md:=.any) (ops:=l.toArray) (ops':=(l.take m).toArray) (Q:=Q) (Q':=fun e a w'=>e=.normal∧(∃k,w'=w.drewN k)∧wpListIn F n P l.toArray Q (l.drop m) a w') (m:=m) (r:=l.length-m) (x _) (fun e u q b=>⟨b.1,fun fuel H=>by
  have:=rest_walk (md:=.any) (l.drop m) m u q (fun j=>by simp) (by simpa using D) b.2.2 fuel (by simpa using H);simpa using this⟩)
  (fun i o I=>by
    have J:=Zs.1 A;have d:(l.take m)[i]? = some o:=(by simpa using I);have L:i<m:=(by have:=(zG.1 d).1;omega);have f:=J o (zS d);simp only [ZU,Option.isNone_iff_eq_none] at f;refine⟨?_,f.1,fun c M=>by rw [M] at f;cases f.2⟩;rw [zv,Zg L] at d;simpa using d)
  (by simp;omega) m (List.replicate m false) a (w.drewN 1) B (by simp) (by rw [t] at hw;rw [←List.toArray_replicate] at hw;exact hw)
 have b:(List.replicate m false++List.replicate (l.length-m) false).toArray=Array.replicate l.toArray.size false:=by
  rw [List.replicate_append_replicate,Nat.add_sub_cancel' s,←List.toArray_replicate];simp
 rw [b,Nat.add_sub_cancel' s] at this;exact this
theorem yC4 {id r:Nat} {a:Act} {w:World} {l:List Oper} (m:Nat) (b:P.follows .mixedOrders=true) (c:regY m l=true)
 (h:wpQuiet P (l.take m).toArray (fun w'=>∃k,w'=w.drewN k) (fun d=>∀w',(∃k,w'=w.drewN k)→wpListIn (Fence.wide.inRound r) n P l.toArray Q (l.drop m) d w') (l.take m) a):(Code.region id l.toArray true).wpIn (Fence.wide.inRound r) n P Q a w :=
 yEp m (fun Q' o a w K e f=>yKr e f) b c h
theorem yJ9 {id:Nat} {a:Act} {w:World} {l:List Oper} (m:Nat) (b:P.follows .mixedOrders=true) (c:regY m l=true)
 (h:wpQuiet P (l.take m).toArray (fun w'=>∃k,w'=w.drewN k) (fun d=>∀w',(∃k,w'=w.drewN k)→wpListIn Fence.wide n P l.toArray Q (l.drop m) d w') (l.take m) a):(Code.region id l.toArray true).wpIn Fence.wide n P Q a w :=
 yEp m (fun Q' o a w K e f=>oper_wide e f) b c h
end
end
section
open Go.RowKit Go.Proofs Go.Shelf
attribute [local go_sem] qV
def frN (fr:Nat) (p:Nat × ByteArray):Nat:=if fr+65536<p.1+p.2.size then p.1 else fr
def yJt (s:ByteArray) (fr:Nat) (p:Nat × ByteArray):List (Nat × ByteArray) :=
 (if fr+65536<p.1+p.2.size then [(fr,s.extract fr p.1)] else [])++(if yz p.2=2 then [(frN fr p,s.extract (frN fr p) (p.1+p.2.size))] else [])
def frLn (fr:Nat) (p:Nat × ByteArray):Nat:=if yz p.2=2 then p.1+p.2.size else frN fr p
def lnF (s:ByteArray):List (Nat × ByteArray)→Nat→List (Nat × ByteArray)
 | [],fr=>[(fr,s.extract fr s.size)]
 | p::t,fr=>yJt s fr p++lnF s t (frLn fr p)
def linesI (s:ByteArray):List (Nat × ByteArray):=lnF s (yF s) 0
def endP:Nat→List (Nat × ByteArray)→Nat
 | a,[]=>a
 | _,p::t=>endP (p.1+p.2.size) t
theorem yE1:∀(l:List (Nat × ByteArray)) (a:Nat) (p:Nat × ByteArray),endP a (l++[p])=p.1+p.2.size
 | [],_,_=>rfl
 | q::t,a,p=>by rw [zo,endP,yE1 t]
theorem yPb (s:ByteArray):∀(f a:Nat),a≤s.size→∀(pre:List (Nat × ByteArray)) (x:Nat × ByteArray),pre++[x] <+: piecesF s f a→x.1=endP a pre∧x.1+x.2.size≤s.size
 | 0,a,ha,pre,x,h=>by
   have:=h.length_le;simp [piecesF] at this
 | f+1,a,ha,pre,x,h=>by
   rw [piecesF] at h;by_cases b:a<s.size
   ·rw [Zg b] at h;have i:=yJ s a ha;have j:=yY (s.extract a s.size) (by omega);have c:(s.extract a (a+nextI (s.extract a s.size))).size=nextI (s.extract a s.size):=(by simp [ZV];omega);cases pre with
    | nil =>
      rw [zp] at h;obtain⟨d,_⟩:=List.cons_prefix_cons.1 h;subst d;exact⟨rfl,by show a+_≤_;rw [c];omega⟩
    | cons q t =>
      rw [zo] at h;obtain⟨e,g⟩:=List.cons_prefix_cons.1 h;subst e;have:=yPb s f _ (by omega) t x g;rw [endP];show x.1=endP (a+(s.extract a (a+nextI (s.extract a s.size))).size) t∧_;rw [c];exact this
   ·rw [Zf b] at h;have:=h.length_le;simp at this
def KpX (P:Nat→Nat→Prop) (n₀:Nat) (W W':World):Prop:=Below n₀ W W'∧∀b cs t f,¬ P b t→W.heap[b]? = some (.cells cs t f)→W'.heap[b]? = some (.cells cs t f)
theorem KpX.trans {P:Nat→Nat→Prop} {n₀:Nat} {A B C:World} (h:KpX P n₀ A B) (k:KpX P n₀ B C):KpX P n₀ A C:=⟨h.1.trans k.1,fun b cs t f a c=>k.2 b cs t f a (h.2 b cs t f a c)⟩
theorem KpX.box {P:Nat→Nat→Prop} {n₀:Nat} {W a:World} (h:KpX P n₀ W a) {b t:Nat} {v:Value} (c:¬ P b t) (d:Boxed W b t v):Boxed a b t v:=h.2 b _ t _ c d
theorem kpX_put {w:World} {P:Nat→Nat→Prop} {n₀:Nat} (g:n₀≤w.heap.size) (W:World) (l:Nat) (o c:Obj) (i:w.heap.size≤l) (h:W.heap[l]? = some o) (d:o.isCells=false) (hw:o.isWalk=false):KpX P n₀ W (W.putObj l c) :=
 ⟨JY g W l o c i h d hw,fun b cs t f k a=>by
   have j:b≠l:=fun e=>by
    subst e;rw [h] at a;cases a;cases d
   exact ((qE W l c).block b (zH.1 a).1 (fun e=>by cases e;exact j rfl)).trans a⟩
def LnI (s:ByteArray) (J:List (yO s)→World→Prop) (W0:World) (l L Bs n₀:Nat) (pre:List (yO s)) (W:World):Prop :=
 ∃(out:List (yO s)) (fr:Nat),(∀R,lnF s (pre.map (·.1)++R) 0=out.map (·.1)++lnF s R fr)∧fr≤endP 0 (pre.map (·.1))∧J out W∧Boxed W L 114 (.func (.yield l) #[] #[])∧Boxed W (L+1) 3 (.int .i64 fr) ∧
   Boxed W Bs 9 (.string s)∧Boxed W (L+1+1) 9 (.string s)∧Below n₀ W0 W∧L+3≤W.heap.size
def LnS (s:ByteArray) (J:List (yO s)→World→Prop) (W0:World) (l L Bs n₀:Nat) (X0:World) (out:List (yO s)) (fr:Nat) (X:World):Prop :=
 J out X∧Boxed X L 114 (.func (.yield l) #[] #[])∧Boxed X (L+1) 3 (.int .i64 fr)∧Boxed X Bs 9 (.string s)∧Boxed X (L+1+1) 9 (.string s) ∧
   Below n₀ W0 X∧L+3≤X.heap.size∧KeepsFrom (L+3) X0 X∧Below n₀ X0 X
section
variable {s:ByteArray} {J Jx:List (yO s)→World→Prop} {W0 X0 X Y:World} {l L Bs n₀ fr:Nat} {out out':List (yO s)} {P:Nat→Nat→Prop}
theorem LnS.below (d:yAs L 2 L J) (p:n₀≤L) (h:LnS s J W0 l L Bs n₀ X0 out fr X) (a:Below X X Y):LnS s J W0 l L Bs n₀ X0 out fr Y:=by
 obtain⟨e,f,g,i,j,k,m,n,o⟩:=h;have c:∀{b t:Nat} {v:Value},Boxed X b t v→Boxed Y b t v:=fun h=>(a.block _ (zH.1 h).1).trans h;exact⟨d.grow e a,c f,c g,c i,c j,k.trans (a.mono (by omega)),zY m a.size,n.trans ((yR a).from _),o.trans (a.mono (by omega))⟩
theorem LnS.store (b:yAs L 2 L J) (q:n₀≤L) (r:Bs<L) (h:LnS s J W0 l L Bs n₀ X0 out fr X) (f:Nat):LnS s J W0 l L Bs n₀ X0 out f (X.setCell ⟨L+1,0,none⟩ (.int .i64 f)):=by
 obtain⟨c,d,e,g,j,k,m,n,o⟩:=h;have a:Below n₀ X (X.setCell ⟨L+1,0,none⟩ (.int .i64 f)):=(Zc _ _).setCell (p:=⟨L+1,0,none⟩) (by show n₀≤L+1;omega) _;exact⟨b.cell _ c (by omega),yA d (by omega),yM (i:=0) e _,yA g (by omega),yA j (by omega),k.trans a,zY m (ZT _ _ _).size,n.trans ((ZT _ _ _).from _),o.trans a⟩
theorem LnS.yield (c:¬ P Bs 9) (d:¬ P L 114) (e:¬ P (L+1) 3) (f:¬ P (L+1+1) 9) (h:LnS s J W0 l L Bs n₀ X0 out fr X) (b:KeepsFrom L X Y) (a:KpX P n₀ X Y) (g:J out' Y):LnS s J W0 l L Bs n₀ X0 out' fr Y:=by
 obtain⟨u,i,j,m,n,p,q,r,t⟩:=h;exact⟨g,a.box d i,a.box e j,a.box c m,a.box f n,p.trans a.1,zY q b.size,r.trans ⟨b.size,fun k o v=>b.same k o (by omega)⟩,t.trans a.1⟩
theorem LnS.left (h:LnS s J W0 l L Bs n₀ X0 out fr X) (a:KeepsFrom L X Y):KeepsFrom (L+3) X0 Y:=by
 obtain⟨c,d,e,f,g,i,j,b,m⟩:=h;exact b.trans ⟨a.size,fun k o n=>a.same k o (by omega)⟩
theorem LnS.kp (h0:Boxed X0 (L+1+1) 9 (.string s)) (h:LnS s J W0 l L Bs n₀ X0 out fr X):KpB (L+1+1) n₀ X0 X:=by
 obtain⟨d,e,f,g,b,i,j,k,c⟩:=h;refine⟨c,fun v a=>?_⟩;rw [h0.cell] at a;cases a;exact b.cell
theorem LnS.lnI {pre:List (yO s)} (h:LnS s J W0 l L Bs n₀ X0 out fr X) (a:∀R,lnF s (pre.map (·.1)++R) 0=out.map (·.1)++lnF s R fr) (b:fr≤endP 0 (pre.map (·.1))):LnI s J W0 l L Bs n₀ pre X:=by
 obtain⟨c,d,e,f,g,i,j,k,m⟩:=h;exact⟨out,fr,a,b,c,d,e,f,g,i,j⟩
end
theorem outLn_cut (s:ByteArray) (fr a e:Nat) (c:ByteArray) (b:a+c.size=e) (h:fr+65536<e) (R:List (Nat × ByteArray)):yJt s fr (a,c)++lnF s R (frLn fr (a,c))=[(fr,s.extract fr a)]++((if yz c=2 then [(a,s.extract a e)] else [])++lnF s R (if yz c=2 then e else a)):=by
 subst b;unfold yJt frLn frN;dsimp only;rw [Zg h,Zg h,zZ]
theorem outLn_no (s:ByteArray) (fr a e:Nat) (c:ByteArray) (b:a+c.size=e) (h:¬ fr+65536<e) (R:List (Nat × ByteArray)):yJt s fr (a,c)++lnF s R (frLn fr (a,c))=((if yz c=2 then [(fr,s.extract fr e)] else [])++lnF s R (if yz c=2 then e else fr)):=by
 subst b;unfold yJt frLn frN;dsimp only;rw [Zf h,Zf h,zp]
theorem yK7 (Bs n₀:Nat) (P:Nat→Nat→Prop) (s:ByteArray) (hs:s.size≤2097152) (h3:Tryz.lays197_ren.g 3<n₀) (h4:Tryz.lays197_ren.g 4<n₀) (w:World) (h9:n₀≤w.heap.size) (c6:Boxed w Bs 9 (.string s)) (hT:T8 w)
 (i0:¬ P Bs 9) (f0:∀b t,w.heap.size≤b→(t=114∨t=3∨t=9)→¬ P b t) :
 yF9 2 Tryz.prog 56 #[.pointer (some ⟨Bs,0,none⟩)] (fun x:yO s=>yPy x.1) (KpX P n₀) (fun xs=>xs.map (·.1)=linesI s) (fun pre=>pre.map (·.1) <+: linesI s) w:=fun n l J Jx W hW hJ f1 hY h0=>by
 have HJ:=lh hJ;have d6:=lh f1;have HY:=lh hY;have f2:T8 W:=hT.keep h3 h4 (hW.mono h9);have d7:=lh (fun (w':World) (hb:Below n₀ W w')=>f2.keep h3 h4 hb);have f3:Boxed W Bs 9 (.string s):=(hW.block Bs (zH.1 c6).1).trans c6;have j0:Bs<w.heap.size:=(zH.1 c6).1;have j1:=hW.size;have z:=lh f0;clear hJ f1 hY hT f2 hW c6 f0;refine qG.2 ((qG (n:=4)).1 ?_);refine qI Tryz.func56 rfl trivial ?_ rfl;simp only [Tryz.ntmps56,qW,zb,zn,Nat.reduceAdd,Nat.reduceSub,qX,qY,qZ,qd,zp,zo];gi_upto_region 2 with fail;obtain⟨m1,m2,m3⟩:=yCm W (.cells #[.func (.yield l) #[] #[]] 114 (0,0)) (.cells #[.int .i64 0] 3 (0,0));have a8:((W.alloc (.cells #[.func (.yield l) #[] #[]] 114)).alloc (.cells #[.int .i64 0] 3)).heap.size=W.heap.size+2:=by rw [zM,zM]
 generalize (W.alloc _).alloc _=W2 at m1 m2 m3 a8 ⊢;obtain⟨L,hL⟩:=nm (W.heap.size);have d8:=lh i0;have a9:=hL;have v:=lh (show yAs L 2 L J by rw [←hL];exact HJ.out);rw [hL] at m1 m2 m3 a8 ⊢;have d9:=(m3.block Bs (by omega)).trans f3;have i1:W2.cell? ⟨Bs,0,none⟩=some (.string s):=Boxed.cell d9;gi_wp2;refine⟨trivial,?_⟩;refine (qG.2 (yIy s _)).mono ?_;rintro e' p ⟨rfl,c7⟩;have b0:Below W2 W2 p:=by rw [c7];exact (Zc _ _).alloc (zT _) _
 have f4:Boxed p (L+1+1) 9 (.string s):=by
  have h:=zL W2 (.cells #[s] 9);rw [a8,←c7] at h;exact h
 have A:p.heap.size=L+3:=by rw [c7,zM,a8]
 rw [a8];clear c7 i1;have k1:Boxed p L 114 (.func (.yield l) #[] #[]):=(b0.block L (by omega)).trans m1;have k2:Boxed p (L+1) 3 (.int .i64 0):=(b0.block (L+1) (by omega)).trans m2;have k3:Boxed p Bs 9 (.string s):=(b0.block Bs (by omega)).trans d9;have f5:Below L W p:=m3.trans (b0.mono (by omega));have f6:Below n₀ W p:=f5.mono (by omega);have i2:J [] p:=HJ.out.grow h0 (hL▸f5);have i3:=d7.out p f6;clear m1 m2 m3 d9 b0 f3 a8;unfold itV;gi_wp2;refine yCt (by omega) (gf:=124) (lb:=#[.pointer (some ⟨L+1+1,0,none⟩)]) rfl trivial (qJ Tryz.func124 (by kernel_rfl) rfl)
  (pieces_stopsC (L+1+1) n₀ s (by omega) h3 h4 p (by omega) f4.cell i3) (fun h k=>KpB.trans h k) (yEy (w:=p) (by omega)) (Zc _ _) (fun _=>rfl)
  (LnI s J W l L Bs n₀) (fun c _ W'=>c=.ret∧∃out:List (yO s),out.map (·.1) <+: linesI s∧Jx out W') ?hI ?hIx ?h0
  (fun x=>{ tmps:=#[.func (.yield l) #[] #[],.pointer (some ⟨Bs,0,none⟩),.pointer (some ⟨L,0,none⟩),.pointer (some ⟨L+1,0,none⟩),.int .i64 x.1.1,.string x.1.2,undef,s,.func (.func 124) #[] #[.pointer (some ⟨L+1+1,0,none⟩)],.int .i64 x.1.1,.string x.1.2,undef,undef,undef,undef,undef,undef,undef,undef,undef,undef,undef,undef,undef,undef,undef,undef,undef,undef,undef,undef,undef,undef,undef,undef,undef,undef,undef,undef,undef,undef,undef,undef,undef,undef,undef],defers:=[] }) ?assign ?body ?done ?stop
 case hI =>
  rintro pre X Y row ⟨out,fr,B,y,V,N,O,Q,Z,r8,r9⟩ C b1;have hr:∀k,row=some k→∃o,X.heap[k]? = some o∧o.isCells=false:=fun k e=>by
   rcases b1 k e with h | ⟨_,h⟩
   ·omega
   ·exact h
  exact⟨out,fr,B,y,HJ.out out X Y row V C (fun r e=>by rcases b1 r e with h | ⟨h,h2⟩;exact qF h (by omega);exact .inr ⟨by omega,h2⟩),yV N C hr,yV O C hr,yV Q C hr,yV Z C hr,
   r8.grown C (by have:=r8.size;omega) (fun k e=>by rcases b1 k e with h | ⟨h,_⟩ <;> omega),zY r9 C.size⟩
 case hIx =>
  rintro c pre X Y row ⟨h0,out,B,y⟩ C b1;exact⟨h0,out,B,d6.out out X Y row y C (fun r e=>by rcases b1 r e with h | ⟨h,h2⟩;exact qF h (by omega);exact .inr ⟨by omega,h2⟩)⟩
 case h0=>exact⟨[],0,fun R=>rfl,zT _,i2,k1,k2,k3,f4,f6,by omega⟩
 case assign =>
  intro l' x W' K hK;gi_wp2;exact hK
 case body =>
  rintro l' pre x X ⟨out,fr,B,y,V,N,O,Q,Z,r8,r9⟩ f7 j2;obtain⟨d,e0⟩:∃a,x.1.1=a:=⟨_,rfl⟩;obtain⟨c,e1⟩:=nm (x.1.2);have c8:x.1=(d,c):=(by rw [←e0,←e1]);have e2:=f7;rw [zW,ZA,c8] at e2;obtain⟨q1,q2⟩:=yPb s s.size 0 (zd _) (pre.map (·.1)) (d,c) e2;rw [←q1] at y;obtain⟨e,he⟩:=nm (d+c.size);have j3:e≤s.size:=(by rw [←he];exact q2);have q3:fr≤d:=y;have q4:d≤e:=(by omega);have f8:=lh (fun (w':World) (c9:T8 w')=>bkind_any c w' c9);simp only [e0,e1];obtain⟨T,c9⟩:=f7;have f9:linesI s=lnF s ((pre++[x]).map (·.1)++T) 0:=(by rw [c9];rfl);have HT:=lh f9;clear f9;have g7:∀R,lnF s ((pre++[x]).map (·.1)++R) 0=out.map (·.1)++(yJt s fr (d,c)++lnF s R (frLn fr (d,c))):=fun R=>by
   rw [zW,ZA,c8,zZ,ZN,B,lnF]
  have g8:=lh g7;have R7:=lh Z;have S0:=lh (show LnS s J W l L Bs n₀ X out fr X from ⟨V,N,O,Q,Z,r8,r9,KeepsFrom.refl _ _,Zc _ _⟩);have HE:=lh he;have d0:=lh c8;have c1:=N.cell;have c2:=O.cell;have c3:=Q.cell;have S:n₀≤L:=(by omega);have i4:Bs<L:=(by omega);have j4:IntKind.i64.wrap ((d:Int)+(c.size:Int))=(e:Int):=(by rw [ZH];omega);have j5:IntKind.i64.wrap ((e:Int)-(fr:Int))=(e:Int)-(fr:Int):=(by rw [ZH];omega);have g0:(0:Int)≤(fr:Int):=(by omega);have g1:(fr:Int)≤(d:Int):=(by omega);have g2:(d:Int)≤(s.size:Int):=(by omega);have g3:(d:Int)≤(e:Int):=(by omega);have g4:(e:Int)≤(s.size:Int):=(by omega);have g5:(fr:Int)≤(e:Int):=(by omega);have g6:(0:Int)≤(d:Int):=(by omega);clear B y V N O Q Z r8 r9 e0 e1 he c8 e2 g7 q1 q2 c9;by_cases hcut:fr+65536<e
  ·have hd:decide ((65536:Int)<(e:Int)-(fr:Int))=true:=zQ (by omega);have g9:∀R,lnF s ((pre++[x]).map (·.1)++R) 0=out.map (·.1)++([(fr,s.extract fr d)]++((if yz c=2 then [(d,s.extract d e)] else [])++lnF s R (if yz c=2 then e else d))):=fun R=>by
    rw [g8.out,outLn_cut s fr d e c HE.out hcut]
   have h5:=lh g9;clear g9;gi_upto_region 7 with fail;refine yC4 6 (by kernel_rfl) (by kernel_rfl) ?_;simp only [Zm,Zj,qp,ZZ]
   repeat (go_big_quiet_step (fail))
   refine Zt ?_;intro _ a0;obtain⟨nq,a1⟩:=a0;subst a1;have h6:=S0.out.below v.out S (yI (Zc _ _) nq);have S1:=lh h6;clear c1 c2 c3;obtain⟨f,a2⟩:∃f:yO s,f.1=(fr,s.extract fr d):=⟨⟨(fr,s.extract fr d),by show fr+(s.extract fr d).size≤s.size;simp [ZV];omega⟩,rfl⟩;have h7:=lh a2;have e3:(out++[f]).map (·.1) <+: linesI s:=by
    rw [HT.out,h5.out,zW,ZA,h7.out,←zZ];exact List.prefix_append _ _
   obtain⟨fn,tmps,assign,body,E,hR⟩:=HY.out out f (X.drewN nq) S1.out.1 e3 (by have:=S1.out.2.2.2.2.2.2.1;omega);rw [a2] at E;dsimp only [yPy] at E;have HR:=lh hR;have i5:=lh e3;clear hR a2 e3 h6;gi_wp2;refine (yF8 HR.out _).mono ?_;rintro e' X2 ⟨U,(⟨rfl,d5,j⟩ | ⟨rfl,e4⟩)⟩
   ·rw [a9] at U;have b2:=S1.out.yield d8.out (z.out _ _ (by omega) (.inl rfl)) (z.out _ _ (by omega) (.inr (.inl rfl))) (z.out _ _ (by omega) (.inr (.inr rfl))) U j d5;have S2:=lh b2;have S3:=lh (b2.store v.out S i4 d);have d2:=b2.2.2.1.cell;have d4:=b2.2.2.1.frozen;clear b2 E HR U j d5;have b3:∀R,lnF s ((pre++[x]).map (·.1)++R) 0=(out++[f]).map (·.1)++((if yz c=2 then [(d,s.extract d e)] else [])++lnF s R (if yz c=2 then e else d)):=fun R=>by
     rw [h5.out,zW,ZA,h7.out,zZ]
    gi_upto_region 9 with fail;gi_wp2;refine⟨trivial,?_⟩;refine (qG.2 (f8.out _ (d7.out _ S3.out.2.2.2.2.2.1))).mono ?_;rintro e' X5 ⟨rfl,b4⟩;have m:=S3.out.below v.out S b4;have F:=lh m;have d1:=m.2.1.cell;have d2:=m.2.2.1.cell;have d3:=m.2.2.2.1.cell;have d4:=m.2.2.1.frozen;clear b4 m;have HN:=lh b3;clear b3;obtain⟨kd,a3⟩:∃k,yz c=k:=⟨_,rfl⟩;rw [a3];by_cases j:kd=2
    ·have e5:decide (kd=2)=true:=zQ j;have i:=HN.out;simp only [a3,Zg j] at i;have G:=lh i;clear i;gi_upto_region 10 with fail;refine yC4 6 (by kernel_rfl) (by kernel_rfl) ?_;simp only [Zm,Zj,qp,ZZ]
     repeat (go_big_quiet_step (fail))
     refine Zt ?_;intro _ a0;obtain⟨b5,a1⟩:=a0;subst a1;have b6:=F.out.below v.out S (yI (Zc _ _) b5);have H:=lh b6;clear d1 d2 d3 d4;obtain⟨b7,a4⟩:∃f:yO s,f.1=(d,s.extract d e):=⟨⟨(d,s.extract d e),by show d+(s.extract d e).size≤s.size;simp [ZV];omega⟩,rfl⟩;have b8:=lh a4;have a5:((out++[f])++[b7]).map (·.1) <+: linesI s:=by
      rw [HT.out,G.out,zW,ZA,b8.out];exact⟨lnF s T e,by simp⟩
     obtain⟨i6,i7,i8,i9,I,b9⟩:=HY.out (out++[f]) b7 (X5.drewN b5) H.out.1 a5 (by have:=H.out.2.2.2.2.2.2.1;omega);rw [a4] at I;dsimp only [yPy] at I;have a6:=lh b9;have e6:=lh a5;clear b9 a4 a5 b6;gi_wp2;refine (yF8 a6.out _).mono ?_;rintro e' X7 ⟨u,(⟨rfl,c0,c4⟩ | ⟨rfl,e7⟩)⟩
     ·rw [a9] at u;have M:=H.out.yield d8.out (z.out _ _ (by omega) (.inl rfl)) (z.out _ _ (by omega) (.inr (.inl rfl))) (z.out _ _ (by omega) (.inr (.inr rfl))) u c4 c0;have S7:=lh M;have d2:=M.2.2.1.cell;have d4:=M.2.2.1.frozen;clear M I a6 u c4 c0;gi_wp2;have a7:=S7.out.store v.out S (by omega) e;rw [A];refine⟨a7.2.2.2.2.2.2.2.1,a7.kp R7.out,a7.lnI (fun R=>?_) ?_⟩
      ·rw [G.out];simp only [zW,ZA,b8.out,zZ]
      ·rw [zW,ZA,yE1,d0.out];exact Nat.le_of_eq HE.out.symm
     ·rw [a9] at u;clear I a6;gi_wp2;rw [A];exact⟨H.out.left u,rfl,_,e6.out,e7⟩
    ·have e5:decide (kd=2)=false:=zP j;have i:=HN.out;simp only [a3,Zf j,zp] at i;have G:=lh i;clear i;gi_wp2;rw [A];refine⟨F.out.2.2.2.2.2.2.2.1,F.out.kp R7.out,F.out.lnI (fun R=>?_) ?_⟩
     ·rw [G.out]
     ·rw [zW,ZA,yE1,d0.out];have h1:=HE.out;have h2:=q4;show _≤d+c.size;omega
   ·rw [a9] at U;clear E HR;gi_wp2;rw [A];exact⟨S1.out.left U,rfl,_,i5.out,e4⟩
  ·have hd:decide ((65536:Int)<(e:Int)-(fr:Int))=false:=zP (by omega);have b3:∀R,lnF s ((pre++[x]).map (·.1)++R) 0=out.map (·.1)++((if yz c=2 then [(fr,s.extract fr e)] else [])++lnF s R (if yz c=2 then e else fr)):=fun R=>by
    rw [g8.out,outLn_no s fr d e c HE.out hcut]
   gi_upto_region 9 with fail;gi_wp2;refine⟨trivial,?_⟩;refine (qG.2 (f8.out _ (d7.out _ S0.out.2.2.2.2.2.1))).mono ?_;rintro e' X5 ⟨rfl,b4⟩;have m:=S0.out.below v.out S b4;have F:=lh m;have d1:=m.2.1.cell;have d2:=m.2.2.1.cell;have d3:=m.2.2.2.1.cell;have d4:=m.2.2.1.frozen;clear b4 m;have HN:=lh b3;clear b3;obtain⟨kd,a3⟩:∃k,yz c=k:=⟨_,rfl⟩;rw [a3];by_cases j:kd=2
   ·have e5:decide (kd=2)=true:=zQ j;have i:=HN.out;simp only [a3,Zg j] at i;have G:=lh i;clear i;gi_upto_region 10 with fail;refine yC4 6 (by kernel_rfl) (by kernel_rfl) ?_;simp only [Zm,Zj,qp,ZZ]
    repeat (go_big_quiet_step (fail))
    refine Zt ?_;intro _ a0;obtain⟨b5,a1⟩:=a0;subst a1;have b6:=F.out.below v.out S (yI (Zc _ _) b5);have H:=lh b6;clear d1 d2 d3 d4;obtain⟨b7,a4⟩:∃f:yO s,f.1=(fr,s.extract fr e):=⟨⟨(fr,s.extract fr e),by show fr+(s.extract fr e).size≤s.size;simp [ZV];omega⟩,rfl⟩;have b8:=lh a4;have a5:((out)++[b7]).map (·.1) <+: linesI s:=by
     rw [HT.out,G.out,zW,ZA,b8.out];exact⟨lnF s T e,by simp⟩
    obtain⟨i6,i7,i8,i9,I,b9⟩:=HY.out (out) b7 (X5.drewN b5) H.out.1 a5 (by have:=H.out.2.2.2.2.2.2.1;omega);rw [a4] at I;dsimp only [yPy] at I;have a6:=lh b9;have e6:=lh a5;clear b9 a4 a5 b6;gi_wp2;refine (yF8 a6.out _).mono ?_;rintro e' X7 ⟨u,(⟨rfl,c0,c4⟩ | ⟨rfl,e7⟩)⟩
    ·rw [a9] at u;have M:=H.out.yield d8.out (z.out _ _ (by omega) (.inl rfl)) (z.out _ _ (by omega) (.inr (.inl rfl))) (z.out _ _ (by omega) (.inr (.inr rfl))) u c4 c0;have S7:=lh M;have d2:=M.2.2.1.cell;have d4:=M.2.2.1.frozen;clear M I a6 u c4 c0;gi_wp2;have a7:=S7.out.store v.out S (by omega) e;rw [A];refine⟨a7.2.2.2.2.2.2.2.1,a7.kp R7.out,a7.lnI (fun R=>?_) ?_⟩
     ·rw [G.out];simp only [zW,ZA,b8.out,zZ]
     ·rw [zW,ZA,yE1,d0.out];exact Nat.le_of_eq HE.out.symm
    ·rw [a9] at u;clear I a6;gi_wp2;rw [A];exact⟨H.out.left u,rfl,_,e6.out,e7⟩
   ·have e5:decide (kd=2)=false:=zP j;have i:=HN.out;simp only [a3,Zf j,zp] at i;have G:=lh i;clear i;gi_wp2;rw [A];refine⟨F.out.2.2.2.2.2.2.2.1,F.out.kp R7.out,F.out.lnI (fun R=>?_) ?_⟩
    ·rw [G.out]
    ·rw [zW,ZA,yE1,d0.out];have h1:=HE.out;have h2:=q4;show _≤d+c.size;omega
 case done =>
  rintro D xs X hD e8 ⟨out,fr,B,y,V,N,O,Q,Z,r8,r9⟩ hK;rw [A] at hD;have j6:fr≤s.size:=by
   refine zY y ?_;rcases List.eq_nil_or_concat (xs.map (·.1)) with h | ⟨t,q,h⟩
   ·rw [h];exact zd _
   ·rw [List.concat_eq_append] at h;rw [h,yE1];exact (yPb s s.size 0 (zd _) t q (by rw [←h,e8];exact List.prefix_refl _)).2
  obtain⟨f,a2⟩:∃f:yO s,f.1=(fr,s.extract fr s.size):=⟨⟨(fr,s.extract fr s.size),by show fr+(s.extract fr s.size).size≤s.size;simp [ZV];omega⟩,rfl⟩;have h8:(out++[f]).map (·.1)=linesI s:=by
   have h1:=B [];rw [zq,e8] at h1;rw [zW,ZA,a2];exact h1.symm
  have c1:=N.cell;have c2:=O.cell;have c3:=Q.cell;have R3:=lh V;have e9:=lh h8;have HK:=lh hK;have g0:(0:Int)≤(fr:Int):=(by omega);have g1:(fr:Int)≤(s.size:Int):=(by omega);clear B y V N O Q Z r8 e8 hK h8;gi_upto_region 12 with fail;refine yJ9 5 (by kernel_rfl) (by kernel_rfl) ?_;simp only [Zm,Zj,qp,ZZ]
  repeat (go_big_quiet_step (fail))
  refine Zt ?_;intro _ a0;obtain⟨nq,a1⟩:=a0;subst a1;clear c1 c2 c3;obtain⟨fn,tmps,assign,body,E,hR⟩:=HY.out out f (X.drewN nq) (v.out.grow R3.out (yI (Zc _ _) nq)) (by rw [e9.out];exact List.prefix_refl _) (by show W.heap.size+2≤X.heap.size;omega);rw [a2] at E;dsimp only [yPy] at E;have HR:=lh hR;clear hR a2;gi_wp2;refine (yF8 HR.out _).mono ?_;rintro e' X2 ⟨U,(⟨rfl,d5,j⟩ | ⟨rfl,e4⟩)⟩
  ·have c5:X2.heap[D]? = some (.deferred (some [])):=U.same D _ (by omega) HK.out rfl;clear E HR;gi_wp2;refine⟨by simp,.inl ⟨_,_,rfl,Zv c5,?_⟩⟩;refine⟨_,results_none rfl _ _ _,⟨_,rfl⟩,.inl ⟨out++[f],e9.out,v.out.put _ d5 c5 rfl (by omega)⟩⟩
  ·have c5:X2.heap[D]? = some (.deferred (some [])):=U.same D _ (by omega) HK.out rfl;clear E HR;gi_wp2;refine⟨by simp,.inl ⟨_,_,rfl,Zv c5,?_⟩⟩;refine⟨_,results_none rfl _ _ _,⟨_,rfl⟩,.inr ⟨out++[f],by rw [e9.out];exact List.prefix_refl _,d6.out.put _ e4 c5 rfl (by omega)⟩⟩
 case stop =>
  rintro D c pre X hD _ ⟨rfl,out,p1,p2⟩ hK;rw [A] at hD;gi_wp2;refine⟨by simp,.inl ⟨_,_,rfl,Zv hK,?_⟩⟩;refine⟨_,results_none rfl _ _ _,⟨_,rfl⟩,.inr ⟨out,p1,d6.out.put _ p2 hK rfl (by omega)⟩⟩
end
section
def yD2:Nat→List (Nat × ByteArray)→Nat→Prop
 | a,[],z=>a=z
 | a,p::t,z=>p.1=a∧yD2 (a+p.2.size) t z
theorem yPj:∀(L:List (Nat × ByteArray)) (a z:Nat),yD2 a L z→a≤z∧∀x∈L,a≤x.1∧x.1+x.2.size≤z
 | [],a,z,h=>⟨Nat.le_of_eq h,fun x b=>by cases b⟩
 | p::t,a,z,⟨h1,h2⟩=>by
   obtain⟨d,c⟩:=yPj t _ z h2;refine⟨by omega,fun x b=>?_⟩;rcases zX.1 b with rfl | b
   ·exact⟨by omega,by omega⟩
   ·have:=c x b;exact⟨by omega,this.2⟩
theorem yG0 (s:ByteArray):∀(f a:Nat),a≤s.size→s.size-a≤f→yD2 a (piecesF s f a) s.size
 | 0,a,h,h2=>by
   rw [piecesF];show a=_;omega
 | f+1,a,h,h2=>by
   rw [piecesF];split
   ·rename_i c;have d:=yJ s a h;have e:=yY (s.extract a s.size) (by omega);have b:(s.extract a (a+nextI (s.extract a s.size))).size=nextI (s.extract a s.size):=(by simp [ZV];omega);refine⟨rfl,?_⟩;show yD2 (a+(s.extract a (a+nextI (s.extract a s.size))).size) _ _;rw [b];exact yG0 s f _ (by omega) (by omega)
   ·show a=_;omega
theorem yF1 (s:ByteArray):yD2 0 (yF s) s.size:=yG0 s s.size 0 (zd _) (by omega)
theorem yCh (s:ByteArray) (a e:Nat) (b:a≤e) (c:e≤s.size):(s.extract a e).size=e-a:=by simp [ZV];omega
theorem yCg (s:ByteArray):∀(L:List (Nat × ByteArray)) (a fr:Nat),yD2 a L s.size→fr≤a→yD2 fr (lnF s L fr) s.size
 | [],a,fr,h,hf=>by
   have h:a=s.size:=h;rw [lnF];refine⟨rfl,?_⟩;show fr+(s.extract fr s.size).size=_;rw [yCh s fr s.size (by omega) (zT _)];omega
 | p::t,a,fr,⟨h1,h2⟩,hf=>by
   have e:=(yPj t _ _ h2).1;rw [lnF];unfold yJt frLn;by_cases c:fr+65536<p.1+p.2.size
   ·have d:frN fr p=p.1:=(by unfold frN;rw [Zg c]);rw [Zg c,d];refine⟨rfl,?_⟩;show yD2 (fr+(s.extract fr p.1).size) _ _;rw [yCh s fr p.1 (by omega) (by omega),show fr+(p.1-fr)=p.1 by omega];by_cases b:yz p.2=2
    ·rw [Zg b,Zg b];refine⟨rfl,?_⟩;show yD2 (p.1+(s.extract p.1 (p.1+p.2.size)).size) _ _;rw [yCh s p.1 (p.1+p.2.size) (by omega) (by omega),show p.1+(p.1+p.2.size-p.1)=p.1+p.2.size by omega];exact yCg s t _ _ (by rw [h1];exact h2) (zT _)
    ·rw [Zf b,Zf b];exact yCg s t _ _ h2 (by omega)
   ·have d:frN fr p=fr:=(by unfold frN;rw [Zf c]);rw [Zf c,d,zp];by_cases b:yz p.2=2
    ·rw [Zg b,Zg b];refine⟨rfl,?_⟩;show yD2 (fr+(s.extract fr (p.1+p.2.size)).size) _ _;rw [yCh s fr (p.1+p.2.size) (by omega) (by omega),show fr+(p.1+p.2.size-fr)=p.1+p.2.size by omega];exact yCg s t _ _ (by rw [h1];exact h2) (zT _)
    ·rw [Zf b,Zf b];exact yCg s t _ _ h2 (by omega)
end
section
open Go.RowKit
theorem yO8 (r:Rul) (T:ByteArray) (e:Bool):∀(f a n:Nat),yQ T a n→T.size<a+f→∀i x,(yAm r T e f a n)[i]? = some x →
 ∃c d,yQ T c d∧x=(c,(yX r T e c d).1-c,(yX r T e c d).2.2.1,(yX r T e c d).2.2.2)∧(i=0→c=a) ∧
   ((((yX r T e c d).2.2.2=2∨(yX r T e c d).2.2.2=3)∧∃y,(yAm r T e f a n)[i+1]? = some y∧y.1=(yX r T e c d).1) ∨
    (¬ ((yX r T e c d).2.2.2=2∨(yX r T e c d).2.2.2=3)∧i+1=(yAm r T e f a n).length))
 | 0,a,n,h,hf,i,x,hx=>by have:=h.1;omega
 | f+1,a,n,h,hf,i,x,hx=>by
   obtain⟨b,_,l,_⟩:=yI8 r T e a n h;rw [yAm] at hx ⊢;by_cases j:(yX r T e a n).2.2.2=2∨(yX r T e a n).2.2.2=3
   ·rw [Zg j] at hx ⊢;have p:=l j;cases i with
    | zero =>
      rw [zB] at hx;refine⟨a,n,h,(zu hx).symm,fun _=>rfl,.inl ⟨j,?_⟩⟩;rw [zA];obtain⟨g,rfl⟩:∃g,f=g+1:=⟨f-1,by omega⟩;rw [yAm];exact⟨_,rfl,rfl⟩
    | succ i =>
      rw [zA] at hx;obtain⟨c,d,m,o,_,k⟩:=yO8 r T e f _ _ b (by omega) i x hx;refine⟨c,d,m,o,(fun h=>by omega),?_⟩;rw [zA,zb];rcases k with k | ⟨k,q⟩
      ·exact .inl k
      ·exact .inr ⟨k,by omega⟩
   ·rw [Zf j] at hx ⊢;cases i with
    | zero =>
      rw [zB] at hx;exact⟨a,n,h,(zu hx).symm,fun _=>rfl,.inr ⟨j,rfl⟩⟩
    | succ i=>simp at hx
theorem yM9 (s:ByteArray) (a b:Nat) (f:a≤s.size) (g:b≤s.size) (h:piecesF s s.size a=piecesF s s.size b):a=b:=by
 by_cases d:a<s.size
 ·rw [yL s a d] at h;by_cases c:b<s.size
  ·rw [yL s b c] at h;have:=(List.cons.inj h).1;injection this
  ·have:b=s.size:=(by omega);rw [this,yd] at h;cases h
 ·have e:a=s.size:=(by omega);by_cases c:b<s.size
  ·rw [e,yd,yL s b c] at h;cases h
  ·omega
theorem last_end (s:ByteArray):∀(pre:List (Nat × ByteArray)) (a b:Nat),a≤s.size→b≤s.size→piecesF s s.size a=pre++piecesF s s.size b→∀k,pre.length=k+1→∃p,(piecesF s s.size a)[k]? = some p∧p.1+p.2.size=b
 | [],a,b,ha,hb,h,k,hk=>by cases hk
 | q::t,a,b,ha,hb,h,k,hk=>by
   have c:a<s.size:=by
    by_cases e:a<s.size
    ·exact e
    ·have:a=s.size:=(by omega);rw [this,yd] at h;cases h
   have h0:=h;rw [yL s a c,zo] at h;obtain⟨f,d⟩:=List.cons.inj h;have g:=yY (s.extract a s.size) (by rw [yJ s a (by omega)];omega);rw [yJ s a (by omega)] at g;cases k with
   | zero =>
     have i:t=[]:=by
      rw [zb] at hk;exact ZE.1 (by omega)
     subst i;have j:=yM9 s _ _ (by omega) hb d;refine⟨q,by rw [h0];rfl,?_⟩;rw [←f,←j];show a+(s.extract a (a+nextI (s.extract a s.size))).size=_;simp [ZV];omega
   | succ k =>
     rw [zb] at hk;obtain⟨p,l,m⟩:=last_end s t _ b (by omega) hb d k (by omega);refine⟨p,?_,m⟩;rw [yL s a c,zA];exact l
theorem yQ.last {s:ByteArray} {b k:Nat} (h:yQ s b (k+1)):∃p,(yF s)[k]? = some p∧p.1+p.2.size=b:=by
 obtain⟨a,pre,c,d⟩:=h;exact last_end s pre 0 b (zd _) a c k d
theorem yPl (a:ByteArray) (k:Nat) (p:Nat × ByteArray) (h:(yF (yU a))[k]? = some p):(yF a)[k]? = some p:=by
 obtain⟨_,b,e⟩:=yCz a;rw [e,zt (zG.1 h).1];exact h
def Ended (L:List (Nat × ByteArray)) (j:Nat):Prop:=∃(k:Nat) (p:Nat × ByteArray),L[k]? = some p∧p.1+p.2.size=j
def EndedMay (L:List (Nat × ByteArray)) (wh:List Int) (j:Nat):Prop:=∃(k:Nat) (p:Nat × ByteArray),L[k]? = some p∧p.1+p.2.size=j∧yH wh k=1
def TileOk (line T:ByteArray) (wd:Int) (e:Bool) (X:List RowV) (i:Nat) (v:RowV):Prop :=
 ∃a len:Nat,v.a=a∧v.len=len∧a+len≤T.size∧(a+len=0∨Ended (yF T) (a+len))∧0≤v.wide∧(wd<v.wide→(yF (T.extract a (a+len))).length=1)∧(i=0→a=0) ∧
   ((i+1<X.length∧(∃y,X[i+1]? = some y∧y.a=((a+len:Nat):Int))∧0<len∧(v.fin=3∨v.fin=2∧EndedMay (yF line) (ye line) (a+len))) ∨
    (i+1=X.length∧a+len=T.size∧v.fin=yBc e))
theorem yKi (b:ByteArray) (c l C:Int) (o g:Bool) (X:List RowV) (u:rowsI b c l C o g=X) :
 (c<1∨1024<c∨65536<b.size→X=[])∧(¬ (c<1∨1024<c∨65536<b.size)→X≠[])∧X.length≤65537∧∀(i:Nat) (v:RowV),X[i]? = some v→TileOk b (yU b) c (yBz b).isSome X i v:=by
 refine⟨fun h=>?_,fun h=>?_,u▸rows_len b c l C o g,fun i v d=>?_⟩
 ·subst u;unfold rowsI;rw [Zg h]
 ·subst u;unfold rowsI;rw [Zf h,yAm,Zd];simp
 ·subst u;unfold rowsI at d ⊢;by_cases D:c<1∨1024<c∨65536<b.size
  ·rw [Zg D] at d;simp at d
  rw [Zf D,zm] at d;rw [Zf D];have K:(yN9 b c l o g).w=c:=rfl;have M:(yN9 b c l o g).wh=ye b:=rfl;have N:∀k p,(yF (yU b))[k]? = some p→(yF b)[k]? = some p:=yPl b;generalize yN9 b c l o g=r at d K M ⊢;generalize yMv (yU b) C g=lev at d ⊢;generalize yU b=T at d N ⊢;generalize (yBz b).isSome=e at d ⊢;generalize hL:yAm r T e (T.size+1) 0 0=L at d ⊢;obtain⟨x,Z,rfl⟩:=Option.map_eq_some_iff.1 d;obtain⟨a,n,E,rfl,a0,z⟩:=yO8 r T e (T.size+1) 0 0 (yQ.zero _) (by omega) i x (by rw [hL];exact Z);rw [hL] at z;obtain⟨P,R,h1,s,O,Q,F,A,S,B,_⟩:=row_law r (by omega) T e a n E;obtain⟨U,V,G,H⟩:=yI8 r T e a n E;obtain⟨c1,j,c3,c4⟩:=yGy T a n E P R h1;rw [K] at B;rw [M] at A;generalize yX r T e a n=q at s O Q F A S B U V G H z ⊢;obtain⟨W,q2,q3,q4⟩:=q;dsimp only at s O Q F A S B U V G H z ⊢;have a1:W-a=szs P:=(by rw [s];omega);refine⟨a,szs P,rfl,?_,c1,?_,F,fun hw=>?_,a0,?_⟩
  ·show ((W-a:Nat):Int)=_;rw [a1]
  ·cases t:n+P.length with
   | zero =>
     left;rw [t] at j;obtain⟨cb,pre,I,J⟩:=j;have:pre=[]:=ZE.1 J;subst this;exact (yM9 _ _ _ (zd _) cb I).symm
   | succ m=>rw [t] at j;exact .inr ⟨m,j.last⟩
  ·have:=B hw;rw [←c3,zK] at this;exact this
  ·rw [zK];rcases z with ⟨f,y,Y,a2⟩ | ⟨f,J⟩
   ·left;have a6:=G f;refine⟨?_,⟨yNv lev y,by rw [zm,Y];rfl,?_⟩,by omega,?_⟩
    ·have:=(zG.1 Y).1;exact this
    ·show ((y.1:Nat):Int)=_;rw [a2,s]
    ·rcases f with f | f
     ·right;obtain⟨a3,t⟩:=A f;refine⟨f,?_⟩;have a7:0<P.length:=zj.2 a3;obtain⟨m,a4⟩:∃m,n+P.length=m+1:=⟨n+P.length-1,by omega⟩;rw [a4] at j t;obtain⟨p,I,a5⟩:=j.last;exact⟨m,p,N m p I,a5,t⟩
     ·left;exact f
   ·right;obtain⟨b5,b6⟩:=H f;exact⟨J,by rw [←s];exact b5,b6⟩
end
section
def ctI (T:ByteArray) (c:Int):Nat:=(yEx T c).1
def nxtI (T:ByteArray) (c:Int):Nat:=ctI T c+nextI (T.extract (ctI T c) T.size)
theorem ct_bord {T:ByteArray} {a k:Nat} (h:yQ T a k):ctI T (a:Int)=a:=by
 obtain⟨l,m,d,n,f,g,b,c⟩:=yMh T (a:Int);have o:=h.1;have i:min (a:Int).toNat T.size=a:=by omega
 rw [i] at f g b c;unfold ctI;by_cases e:(yEx T (a:Int)).1=a
 ·exact e
 ·by_cases j:a<T.size
  ·have:=yLr d h (by omega);have:=b j;omega
  ·exact (by have:=c (by omega);omega)
theorem yOc (T:ByteArray) (c:Int):∃k,yQ T (ctI T c) k:=by
 obtain⟨a,d,b,_⟩:=yMh T c;exact⟨a,b⟩
theorem yH9 {s:ByteArray} {m:Nat} {p:Nat × ByteArray} (h:(yF s)[m]? = some p):yQ s p.1 m∧p.1<s.size∧p.2.size=nextI (s.extract p.1 s.size):=by
 have c:=(zG.1 h).1;have e:yF s=(yF s).take m++p::(yF s).drop (m+1):=by
  have a:=zG.1 h;obtain⟨c,f⟩:=a
  conv=>lhs;rw [←zw m (yF s),qT c,f]
 obtain⟨b,i,d,j⟩:=yF0 s _ 0 p _ (zd _) e;refine⟨⟨by omega,(yF s).take m,by rw [b];exact e,by rw [za];omega⟩,d,?_⟩;have g:=yY (s.extract p.1 s.size) (by rw [yJ s p.1 (by omega)];omega);rw [yJ s p.1 (by omega)] at g;rw [yL s p.1 d] at b;have:=(List.cons.inj b).1;have a:=Zb (fun q:Nat × ByteArray=>q.2.size) this;dsimp only at a;rw [←a,yCh s _ _ (by omega) (by omega)];omega
theorem nxt_le (T:ByteArray) (a:Nat) (h:a≤T.size):a+nextI (T.extract a T.size)≤T.size:=by
 have b:(T.extract a T.size).size=T.size-a:=yCh T a _ h (zT _);by_cases c:a<T.size
 ·have:=yY (T.extract a T.size) (by omega);omega
 ·have:nextI (T.extract a T.size)=0:=(by unfold nextI;rw [Zg (by omega)]);omega
end
section
open Go.RowKit Go.Proofs Go.Shelf
theorem iter_own {k:IntKind} {e base cap:Nat} {w:World} {a:Option Addr} {b:List Int} (h:yG k e w base a cap b) {B:Nat} {s:ByteArray} {pos:Nat} (o:B<base) (d:Nat) (p:w.heap[B]? = some (.stringIter s pos)):yG k e (w.iterAt B s d) base a cap b:=by
 refine⟨h.1,?_⟩;rcases h.2 with f | ⟨g,c,i,j,l,m,n⟩
 ·exact .inl f
 ·exact .inr ⟨g,c,i,j,l,(Lib.iterAt_other w B g s d (by omega)).trans m,n⟩
theorem bad_step (s:ByteArray) (pos:Nat) (h:pos<s.size):yJp s (s.size-pos) pos=((decide (((Utf8.decode s pos).1:Int)=65533)&&decide ((Utf8.decode s pos).2=1))||yJp s (s.size-(pos+(Utf8.decode s pos).2)) (pos+(Utf8.decode s pos).2)):=by
 obtain⟨k,a⟩:∃k,s.size-pos=k+1:=⟨s.size-pos-1,by omega⟩;have b:=Lib.decode_width_pos s pos h;rw [a,yJp,Zg h]
 congr 1
 exact badF_fuel s _ _ _ (by omega) (by omega)
theorem Bad_any (s:ByteArray) (hs:s.size≤2097152) (w:World) (hT:T8 w) :
 Calls Tryz.prog 129 #[s] w fun e w'=>∃a n c,e=.returned (.slice a n c)∧(n=0↔badI s=false)∧Below w w w':=by
 obtain⟨i0,b0,b1,b2,b3⟩:=info_parts (Tryz.info_int);go_enter Tryz.func129,Tryz.ntmps129;go_wp2;refine wp_scope_straight ?_;go_wp2;refine wp_label ?_;go_wp2;obtain⟨b,o⟩:=nm (w.heap.size);have L:(w.iter s 0).heap[b]? = some (.stringIter s 0):=by rw [←o];exact World.iter_heap w s 0
 have M:Below b w (w.iter s 0):=by rw [←o];exact (Zc _ _).alloc (zT _) _
 generalize w.iter s 0=W0 at L M ⊢;rw [o];go_loopw [3,4,5,6,7,14] (fun u3 _ _ _ _ _ p=>∃(pos:Nat) (d:List Int) (a:Option Addr) (c:Nat),pos≤s.size∧d.length≤pos∧u3=.slice a d.length c∧p.heap[b]? = some (.stringIter s pos)∧yG .i64 3 p (b+1) a c d∧Below b w p ∧
  ((d=[]∧yJp s (s.size-pos) pos=badI s)∨(d≠[]∧badI s=true))) (fun _ _ _ _ _ _ p=>s.size-p.iterPos b)
 case atStart=>exact⟨0,[],none,0,by omega,by simp,rfl,L,Zx _ _ _ _,M,.inl ⟨rfl,by rw [Nat.sub_zero];rfl⟩⟩
 case round =>
  obtain⟨pos,d,a,c,N,O,rfl,i,Q,z,A⟩:=hrel;have R:wr.iterPos b=pos:=(by simp [World.iterPos,i]);clear L M;by_cases S:pos<s.size
  ·have q:=fun ty=>Lib.run_next_any_at (P:=Tryz.prog) wr b s pos ty i S;have B:=bad_step s pos S;have b4:=Lib.decode_width_pos s pos S;have T:Lib.decodeGo (s.extract pos s.size)=Utf8.decode s pos:=by
    rw [←dec_go _ (by rw [yJ s pos N];omega),dec_ext s pos 0 N,Zl]
   have U:pos+(Utf8.decode s pos).2≤s.size:=by
    have f:=yCo (s.extract pos s.size);unfold yAa at f;rw [T,yJ s pos N] at f;omega
   have C:=iter_own Q (by omega) (pos+(Utf8.decode s pos).2) i;have D:=Lib.iterAt_heap wr b s pos (pos+(Utf8.decode s pos).2) i;have t:=Lib.below_iterAt z (zT b) s (pos+(Utf8.decode s pos).2);have E:=hT.below o.symm t;have F:Hid (∀W,T8 W→Calls Tryz.prog 134 #[.string (s.extract pos s.size)] W fun e w'=>e=.returned (.tuple #[.int .i32 (Utf8.decode s pos).1,.int .i64 (Utf8.decode s pos).2])∧Below W.heap.size W w'):=lh fun W h=>T▸Any.utf8_DecodeRuneInString Tryz.lays197 (s.extract pos s.size) W h;generalize (Utf8.decode s pos).1=r at q B F;generalize (Utf8.decode s pos).2=n at q B b4 U C D t E F;generalize wr.iterAt b s (pos+n)=w1 at q C D t E;have u:=lh B;have a0:=lh C;have V:=lh D;have a1:=lh t;have b5:=lh E;have v:=lh A;have l:=lh U;have X:=lh R;have x:=lh O;have gp:(pos:Int)≤(s.size:Int):=(by omega);clear i Q z A B C D t E T U R O;go_upto_region 6 with (go_at_call 134;refine (F.out _ b5.out).mono ?_;rintro e G ⟨rfl,H⟩);have a2:b<w1.heap.size:=(zH.1 V.out).1;have Y:G.heap[b]? = some (.stringIter s (pos+n)):=(H.block b a2).trans V.out;have m:=lh Y;have j:=lh (a0.out.keep H);have I:=lh (a1.out.trans (H.mono (Zq a2)));have a3:b<G.heap.size:=(zH.1 Y).1;clear Y H a0 a1 V F q;have a4:¬ (r=65533∧n=1)→((d=[]∧yJp s (s.size-(pos+n)) (pos+n)=badI s)∨(d≠[]∧badI s=true)):=fun b6=>by
    rcases v.out with ⟨f,g⟩ | h
    ·refine .inl ⟨f,?_⟩;rw [u.out] at g;rw [←g];by_cases h3:r=65533
     ·have h4:¬ n=1:=fun h=>b6 ⟨h3,h⟩;rw [zP h4,Bool.and_false,Bool.false_or]
     ·have h5:¬ ((r:Int)=65533):=(by omega);rw [zP h5,Bool.false_and,Bool.false_or]
    ·exact .inr h
   have y:=lh a4;clear a4;by_cases J:r=65533
   ·by_cases Z:n=1
    ·subst J Z;have b7:Hid (badI s=true):=lh (by
      rcases v.out with ⟨f,g⟩ | h
      ·rw [←g,u.out];rfl
      ·exact h.2)
     clear y u v;have b8:=yP j.out;go_wp2_with (at_builtin;refine wpList_append_own _ rfl _ _ 93 rfl (b+1) 3 i0 (.int .i64 0) 1 8 Tryz.underlying93 b0 b1 b2 b3 rfl (by decide) _ _ _ rfl (j.out.alloc _) ⟨G,0,none⟩ 1 1 [pos] rfl rfl (JV _ _ _) (by simp [Value.oneCell']) (by unfold maxLen;have:=x.out;omega) (by have:=x.out;omega) (by simp;omega) ?_;intro v' w4 K hg _);have a5:=(I.out.alloc (Zq a3) (.cells #[pos] 3)).grown hg (by simp;omega) (fun k hk=>by have:=(ZW j.out k hk).1;omega);have a6:w4.heap[b]? = some (.stringIter s (pos+1)):=(hg.block b (by simp;omega) (fun e=>by have:=(ZW j.out b e.symm).1;omega)).trans ((qA G _ b a3).trans m.out);have hm:d.map (Value.int .i64)++[.int .i64 (pos:Int)]=(d++[(pos:Int)]).map (Value.int .i64):=(by rw [zW];rfl);rw [hm] at K;obtain⟨va,vc,b9,_,_⟩:=yP K;subst b9;have a7:yG .i64 3 w4 (b+1) va vc (d++[(pos:Int)]):=by
      unfold yG;rw [zJ];exact K
     have c0:=lh a7;have a8:=lh a6;have c1:=lh a5;clear K a7 a6 a5 hg hm b8 j m I;go_wp2;go_roundw
     case rel=>exact⟨pos+1,d++[(pos:Int)],va,vc,l.out,by have:=x.out;rw [zJ];simp;omega,by rw [zJ];rfl,a8.out,c0.out,c1.out,.inr ⟨by simp,b7.out⟩⟩
     case measure=>rw [X.out];simp [World.iterPos,a8.out];have:=l.out;omega
    ·have c2:((n:Int) != 1)=true:=(by simp;omega);have HN:=lh (y.out (fun h=>Z h.2));subst J;clear Z y u v;go_wp2;go_roundw
     case rel=>exact⟨pos+n,d,a,c,l.out,by have:=x.out;omega,rfl,m.out,j.out,I.out,HN.out⟩
     case measure=>rw [X.out];simp [World.iterPos,m.out];have:=l.out;omega
   ·have c2:((r:Int) != 65533)=true:=(by simp;omega);have HN:=lh (y.out (fun h=>J h.1));clear J y u v;go_wp2;go_roundw
    case rel=>exact⟨pos+n,d,a,c,l.out,by have:=x.out;omega,rfl,m.out,j.out,I.out,HN.out⟩
    case measure=>rw [X.out];simp [World.iterPos,m.out];have:=l.out;omega
  ·obtain rfl:pos=s.size:=(by omega);have q:=fun ty=>Lib.run_next_end_at (P:=Tryz.prog) wr b s s.size ty i (Zh _);have hE:d.length=0↔badI s=false:=by
    rcases A with ⟨f,g⟩ | ⟨f,g⟩
    ·rw [f,←g,Zk,yJp];simp
    ·rw [g];simp [f]
   have HE:=lh hE;have a9:=lh z;clear hE z A Q i R O;go_wp2;unfold Exit.noGoto;go_ret;exact⟨_,_,_,rfl,HE.out,by first | exact a9.out | exact o▸a9.out⟩
end
section
open Go.RowKit Go.Proofs
section
variable {P:Program} {ops:Array Oper} {Q:Exit→Act→World→Prop} {md:Region.Mode} {S:World→Prop}
def yMr:List Nat→Array Bool→Array Bool
 | [],l=>l
 | k::ks,l=>yMr ks (l.setIfInBounds k true)
def yH6 (md:Region.Mode) (ops:Array Oper):List Nat→Array Bool→Bool
 | [],_=>true
 | k::ks,l=>(Region.ready md ops l).contains k&&Region.free md ops l k&&yLd ops k&&yH6 md ops ks (l.setIfInBounds k true)
def yS (ops:Array Oper) (ks:List Nat):List Oper:=ks.filterMap fun k=>ops[k]?
theorem yDw (f:Region.noSelect ops=true) (g:∀c a b w,Q (.panic c) a w→Q (.panic c) b w) {Lq:Act→Prop} {fuel:Nat} {w:World} (i:S w) :
 ∀(h:List Oper) (ks:List Nat) (l:Array Bool) (a:Act),ks.map (fun k=>ops[k]?)=h.map some→yH6 md ops ks l=true→wpQuiet P ops (CS S) Lq h a →
   (∀b,Lq b→wpAnyH P md ops Q S fuel (yMr ks l) b w)→wpAnyH P md ops Q S (h.length+fuel) l a w
 | [],[],l,a,_,_,hw,hn=>by rw [zn,Za];exact hn a hw
 | [],k::ks,l,a,he,_,_,_=>by simp at he
 | o::h,[],l,a,he,_,_,_=>by simp at he
 | o::h,k::ks,l,a,he,hB,hw,hn=>by
   simp only [Zd,List.cons.injEq] at he;obtain⟨h0,j⟩:=he;simp only [yH6,ZU] at hB;obtain⟨⟨⟨m,n⟩,d⟩,p⟩:=hB;have q:yM6 o=true:=(by unfold yLd at d;rw [h0] at d;exact d);have r:∃v,YieldsIf P ops S o v a∧wpQuiet P ops (CS S) Lq h (a.put o.dst v):=by
    unfold wpQuiet at hw;split at hw
    ·rename_i e;obtain⟨v,s,t⟩:=hw;exact⟨v,.inl ⟨e,fun w' u=>yNn q (s w' (CS.of u))⟩,t⟩
    ·rename_i e;exact⟨undef,.inr ⟨by simpa using e,rfl⟩,hw⟩
   obtain⟨v,x,y⟩:=r;rw [zb,show h.length+1+fuel=(h.length+fuel)+1 by omega];refine wpAnyH_take h0 f n m (fun c b w' z=>g c _ _ w' z) x i ?_;exact yDw f g i h ks _ _ j p y hn
theorem yE3:∀(ks:List Nat) (l:Array Bool),yH6 md ops ks l=true→ks.map (fun k=>ops[k]?)=(yS ops ks).map some
 | [],_,_=>rfl
 | k::ks,l,h=>by
   simp only [yH6,ZU] at h;obtain⟨⟨_,a⟩,b⟩:=h;cases ho:ops[k]? with
   | none=>unfold yLd at a;rw [ho] at a;cases a
   | some o =>
     have:=yE3 ks _ b;unfold yS at this ⊢;rw [Zd,this,zD,ho];rfl
def yIb (P:Program) (ops:Array Oper) (S:World→Prop) (Q:Exit→Act→World→Prop):List (List Nat × Nat)→List Nat→Act→World→Prop
 | [],z,a,w=>wpQuiet P ops (fun w'=>∃p:WIn S,w'=p.w) (fun a'=>Q .normal a' w) (yS ops z) a
 | x::t,z,a,w=>wpQuiet P ops (fun w'=>∃p:WIn S,w'=p.w) (fun a'=>∀K:Act→World→Prop,(∀a w,S w→yIb P ops S Q t z a w→K a w)→wpList P ops (Exit.then K Q) (yS ops [x.2]) a' w) (yS ops x.1) a
def segP (md:Region.Mode) (ops:Array Oper):List (List Nat × Nat)→List Nat→Array Bool→Bool
 | [],z,l=>yH6 md ops z l&&(Region.ready md ops (yMr z l)).isEmpty
 | x::t,z,l=>yH6 md ops x.1 l&&decide (Region.ready md ops (yMr x.1 l)=[x.2])&&yIu ops x.2&&segP md ops t z ((yMr x.1 l).setIfInBounds x.2 true)
def cntP (ops:Array Oper):List (List Nat × Nat)→List Nat→Nat
 | [],z=>(yS ops z).length
 | x::t,z=>(yS ops x.1).length+(cntP ops t z+1)
theorem seg_walkP (g:Region.noSelect ops=true) (i:∀c a d w,Q (.panic c) a w→Q (.panic c) d w) :
 ∀(t:List (List Nat × Nat)) (z:List Nat) (b:Array Bool) (a:Act) (w:World),segP md ops t z b=true→S w→yIb P ops S Q t z a w→wpAnyH P md ops Q S (cntP ops t z) b a w
 | [],z,b,a,w,hB,hS,h=>by
   simp only [segP,ZU] at hB;unfold yIb at h;have:=yDw (fuel:=0) g i hS (yS ops z) z b a (yE3 z b hB.1) hB.1 h (fun d f=>wpAnyH_done (by simpa using hB.2) f 0);simpa [cntP] using this
 | x::t,z,b,a,w,hB,hS,h=>by
   simp only [segP,ZU,ZX] at hB;obtain⟨⟨⟨j,k⟩,e⟩,l⟩:=hB;unfold yIb at h;unfold cntP;cases hok:ops[x.2]? with
   | none=>unfold yIu at e;rw [hok] at e;cases e
   | some o =>
     have m:∀d:Act,Region.wanted o (yielded ops d.tmps)=true:=fun d=>by
      unfold yIu at e;rw [hok] at e;unfold Region.wanted;have:o.guard=none:=(by simpa using e);rw [this]
     have n:yS ops [x.2]=[o]:=(by unfold yS;simp [hok]);refine yDw g i hS (yS ops x.1) x.1 b a (yE3 x.1 b j) j h (fun d f=>?_);rw [n] at f;exact loud_walk hok k hS (m d) f (fun p q r s=>seg_walkP g i t z _ p q l r s)
theorem yBo {id:Nat} {a:Act} {w:World} {l:List Oper} (S:World→Prop) (t:List (List Nat × Nat)) (z:List Nat) (c:P.follows .mixedOrders=true)
 (b:(Region.noSelect l.toArray&&segP .any l.toArray t z (Array.replicate l.length false)&&decide (cntP l.toArray t z=l.length))=true)
 (d:S w.drew) (h:yIb P l.toArray S (NoPanic Q) t z a w.drew):(Code.region id l.toArray true).wp P Q a w:=by
 simp only [ZU,ZX] at b;refine wp_region_noPanic (wp_region_any c (wpAny_of_held _ _ _ _ (?_:wpAnyH P .any l.toArray (NoPanic Q) S _ _ a w.drew)));have:=seg_walkP (md:=.any) b.1.1 (fun _ _ _ _ h=>h) t z _ a w.drew b.1.2 d h;rw [b.2] at this;simpa using this
end
end
section
open Go.RowKit Go.Proofs Go.Shelf
attribute [local go_sem] qV
structure ChS (w:World) (b:Nat) (lv sv:Value) (fr tt bs:Nat) (wide:Int) (M:List Pc) (W:World):Prop where
 ld:LdB W b lv sv fr tt bs wide
 own:yN pcE 98 W (b+1) lv M
 bel:Below b w W
section
variable {w W W':World} {b:Nat} {lv sv:Value} {fr tt bs:Nat} {wide:Int} {M:List Pc}
theorem ChS.below (h:ChS w b lv sv fr tt bs wide M W) (a:Below W W W'):ChS w b lv sv fr tt bs wide M W' :=
 ⟨h.ld.below a h.ld.lt,h.own.keep a,h.bel.trans (a.mono (Zq h.ld.lt))⟩
theorem ChS.drew (h:ChS w b lv sv fr tt bs wide M W):ChS w b lv sv fr tt bs wide M W.drew:=⟨h.ld,h.own,h.bel.drew⟩
end
def chP (s:ByteArray) (rs:List Int) (L:List Pc) (i:Nat):List Pc:=(L.take i).map (yC2 s rs)++L.drop i
theorem chP_zero (s:ByteArray) (a:List Int) (L:List Pc):chP s a L 0=L:=by unfold chP;simp
theorem chP_all (s:ByteArray) (a:List Int) (L:List Pc):chP s a L L.length=L.map (yC2 s a):=by unfold chP;simp
theorem chP_len (s:ByteArray) (a:List Int) (L:List Pc) (i:Nat) (h:i≤L.length):(chP s a L i).length=L.length:=by unfold chP;simp;omega
theorem chP_get (s:ByteArray) (a:List Int) (L:List Pc) (i:Nat) (p:Pc) (h:L[i]? = some p):(chP s a L i)[i]? = some p:=by
 have b:=(zG.1 h).1;unfold chP;rw [zr (by simp;omega)];simp only [zK,za];rw [ZI,show i+(i-min i L.length)=i by omega];exact h
theorem chP_next (s:ByteArray) (a:List Int) (L:List Pc) (i:Nat) (p:Pc) (h:L[i]? = some p):(chP s a L i).set i (yC2 s a p)=chP s a L (i+1):=by
 have c:=(zG.1 h).1;unfold chP;have b:(List.map (yC2 s a) (L.take i)).length=i:=by simp;omega
 rw [qm _ _ (by omega),b,Zk,qS,h,zW,yAu h,zi,zZ];rfl
theorem yOl (p:Pc) (b:p.level<256) (w:World):Calls Tryz.prog 92 #[.agg #[p.a,p.size,p.c0,p.c1,.int .u8 p.level,p.became,p.shown,p.wide,p.e0,p.e1]] w fun e w' =>
 e=.returned (.int .i64 ((p.level % 2:Nat):Int))∧Below w w w':=by
 go_enter Tryz.func92,Tryz.ntmps92;go_wp2;have c:=qal w (.cells #[p.a,p.size,p.c0,p.c1,.int .u8 p.level,p.became,p.shown,p.wide,p.e0,p.e1] 98);go_ret;exact⟨yK (by rw [yFe _ b];unfold wrap64;omega),c⟩
theorem ChS.set {w W:World} {b G cap:Nat} {sv:Value} {fr tt bs:Nat} {wide:Int} {M:List Pc} (h:ChS w b (.slice (some ⟨G,0,none⟩) M.length cap) sv fr tt bs wide M W) (i:Nat) (p:Pc) (a:M[i]? = some p) (x:ByteArray) :
 ChS w b (.slice (some ⟨G,0,none⟩) M.length cap) sv fr tt bs wide (M.set i { p with became:=x }) (W.setCell ⟨G,i*10+5,none⟩ (.string x)):=by
 have c:=ZW h.own G rfl;refine⟨yA h.ld (by omega),?_,h.bel.trans ((Zc _ W).setCell (p:=⟨G,i*10+5,none⟩) (show b≤G by omega) _)⟩;have:=yN.set (cap:=cap) h.own i p { p with became:=x } a 5 (.string x) (by decide) rfl;rw [ZQ] at this;exact this
theorem rChg_any (s:ByteArray) (hs:s.size≤2097152) (b2 b3:Int) (b4 A b5:Bool) (b:Nat) (lv sv:Value) (fr tt bs:Nat) (wide:Int) (L:List Pc) (w:World) (hL:LdB w b lv sv fr tt bs wide) (hO:yN pcE 98 w (b+1) lv L) (hT:T8 w) (f8:Tryz.lays197_ren.g 3<b) (f9:Tryz.lays197_ren.g 4<b)
 (o9:fr≤tt) (p0:tt≤s.size) (hn:L.length≤2097152) (hc:∀(i:Nat) (p:Pc),L[i]? = some p→p.c0<p.c1∧p.c1≤(yE (s.extract fr tt)).length∧p.a+p.size≤s.size∧p.level<256) :
 Calls Tryz.prog 85 #[.pointer (some ⟨b,0,none⟩),s,yEq b2 b3 b4 A b5] w fun e w'=>e=.returned (.tuple #[]) ∧
  LdB w' b lv sv fr tt bs wide∧yN pcE 98 w' (b+1) lv (L.map (yC2 s (yQj s A fr tt)))∧Below b w w':=by
 obtain⟨i0,g0,g2,g3,g4⟩:=info_parts (Tryz.info_rune);have g5:b<w.heap.size:=hL.lt;have l4:Hid (∀g,lv.ownBlock=some g→g<w.heap.size):=lh fun g E=>(ZW hO g E).2;have l5:=lh f8;have l6:=lh f9;clear f8 f9;go_enter Tryz.func85,Tryz.ntmps85;go_upto_region 1 with fail;have X:=qal w (.cells #[b2,b4,.int .i8 b3,A,b5] 26);have a2:=zL w (.cells #[b2,b4,.int .i8 b3,A,b5] 26);generalize w.alloc _=W0 at X a2 ⊢;obtain⟨lb,l7⟩:=nm (w.heap.size);rw [l7] at a2 ⊢;have g6:ChS w b lv sv fr tt bs wide L W0:=⟨hL.below X g5,hO.keep X,X.mono (Zq g5)⟩;have g7:=lh (hT.below rfl X);have p1:lb<W0.heap.size:=(zH.1 a2).1;obtain⟨-,-,-,l3⟩:=qc4 a2;obtain⟨R,hR⟩:=nm (yE (s.extract fr tt));have g8:(s.extract fr tt).size≤2097152:=by simp [ZV];omega
 have l8:R.length≤2097152:=by rw [←hR];have:=yG2 (s.extract fr tt);omega
 rw [hR] at hc;have g9:Hid (∀W:World,(W.cell? ⟨lb,3,none⟩=some (.bool A)∧T8 W∧ChS w b lv sv fr tt bs wide L W)→Calls Tryz.prog 61 #[.string (s.extract fr tt)] W fun e w'=>∃a c,e=.returned (.slice a R.length c)∧Rd .i32 w' a R∧R.length≤c∧c≤9223372036854775807∧(∃g,a=some ⟨g,0,none⟩∧w.heap.size≤g) ∧
  w'.cell? ⟨lb,3,none⟩=some (.bool A)∧T8 w'∧ChS w b lv sv fr tt bs wide L w'):=lh fun W h=>(Runes_at (s.extract fr tt) g8 W).mono fun e w' H=>by
   rw [hR] at H;obtain⟨c,he,h1,h2,h3,hb⟩:=H;exact⟨_,c,he,h1,h2,h3,⟨_,rfl,h.2.2.bel.size⟩,yB hb (yD h.1) h.1,h.2.1.below rfl hb,h.2.2.below hb⟩
 have d7:Hid (∀W,(W.cell? ⟨lb,3,none⟩=some (.bool A)∧T8 W∧ChS w b lv sv fr tt bs wide L W)→W.cell? ⟨b,2,none⟩=some (.int .i64 fr)∧W.cell? ⟨b,3,none⟩=some (.int .i64 tt)∧W.cell? ⟨lb,3,none⟩=some (.bool A)∧T8 W∧ChS w b lv sv fr tt bs wide L W) :=
  lh fun W h=>⟨h.2.2.ld.cells.2.2.1,h.2.2.ld.cells.2.2.2.1,h⟩
 obtain⟨k2,k3,l9,m0,m1⟩:=d7.out _ ⟨l3,g7.out,g6⟩;have HR:=lh hR;have HC:=lh hc;have i1:(fr:Int)≤(tt:Int):=by omega
 have i2:(tt:Int)≤(s.size:Int):=by omega
 clear a2 X hL hO hT g7 hR hc g8 l3 g6
 go_region_held3 (fun w'=>w'.cell? ⟨b,2,none⟩=some (.int .i64 fr)∧w'.cell? ⟨b,3,none⟩=some (.int .i64 tt)∧w'.cell? ⟨lb,3,none⟩=some (.bool A)∧T8 w'∧ChS w b lv sv fr tt bs wide L w')
  ((refine d7.out _ ⟨?_,?_,?_⟩ <;> (repeat (first | assumption | refine ChS.drew ?_))))
  ((go_at_call 61;refine (g9.out _ ⟨by assumption,by assumption,by (repeat (first | assumption | refine ChS.drew ?_))⟩).mono ?_;rintro e w5 ⟨ra,rc,rfl,h0,h4,h5,m2,m3,h6,h7⟩))
 obtain⟨f,b6⟩:=nm (yQj s A fr tt);have h8:f.length=R.length:=by rw [←b6,madeI_len,HR.out]
 have h9:f=if A=true then yEv R else R:=by rw [←b6,←HR.out];rfl
 have m4:=lh b6;have d8:=lh h0;have d9:=lh h6;have b7:=lh h7;have e2:=lh h8;have e3:=lh h9;clear b6 h0 h6 h7 h8 h9 g9 d7 HR k2 k3 l9 m0 m1 i1 i2;go_upto_if 23 with fail;go_cut [6] (fun v C=>∃(a:Option Addr) (c:Nat),v=.slice a R.length c∧Rd .i32 C a f∧R.length≤c∧c≤9223372036854775807∧(∃g,a=some ⟨g,0,none⟩∧w.heap.size≤g)∧T8 C∧ChS w b lv sv fr tt bs wide L C)
 case first =>
  cases A with
  | false =>
    have e4:f=R:=(by have:=e3.out;rw [Zf (by decide)] at this;exact this);subst e4;go_wp2;go_meet;exact⟨_,_,rfl,d8.out,h4,h5,m2,d9.out,b7.out⟩
  | true =>
    have e4:f=yEv R:=(by have:=e3.out;rw [Zg rfl] at this;exact this);have m5:=lh (Shaped_any ra R R.length rc w5 rfl d8.out l8);go_wp2_with (go_at_call 128;refine m5.out.mono ?_;rintro e w6 ⟨rfl,m6,Y⟩);go_meet;exact⟨_,_,rfl,by rw [e4];exact m6.rd,zT _,by omega,⟨_,rfl,b7.out.bel.size⟩,d9.out.below rfl Y,b7.out.below Y⟩
 case rest =>
  obtain⟨ca,cc,rfl,a3,i4,i5,⟨l,m7,p2⟩,i6,b8⟩:=hcut;subst m7;obtain⟨la,Z,m8,_,_⟩:=b8.own.slice;subst m8;have d0:=b8.ld.cells.1;have i7:=lh a3;have i9:=lh i6;have j0:=lh b8;have m9:=lh i4;have p3:=lh i5;clear a3 i6 b8 i4 i5 d8 d9 b7 e3 m3 h4 h5;go_upto_block 0 with fail;go_wp2;clear d0;obtain⟨n,b9⟩:=nm (L.length);rw [b9];have N:=lh b9;rw [b9] at hn;clear b9;go_loopw [7,9,10,31] (fun _ _ _ u C=>∃i:Nat,i≤n∧u=.int .i64 i∧Rd .i32 C (some ⟨l,0,none⟩) f∧T8 C∧ChS w b (.slice la L.length Z) sv fr tt bs wide (chP s f L i) C) (fun _ _ _ u _=>n-(intOf u).toNat)
  case atStart=>exact⟨0,by omega,rfl,i7.out,i9.out,by rw [chP_zero];exact j0.out⟩
  case round =>
   obtain⟨i,hi,rfl,a3,j4,hS⟩:=hrel;have n0:=lh a3;have j5:=lh j4;have I:=lh hS;clear a3 j4 hS i7 i9 j0;by_cases j6:i<n
   ·obtain⟨p,H⟩:∃p,L[i]? = some p:=⟨_,zF (by rw [N.out];exact j6)⟩;have c2:=chP_get s f L i p H;have c3:=chP_len s f L i (by rw [N.out];exact hi);have e5:=chP_next s f L i p H;obtain⟨M,hM⟩:=nm (chP s f L i);rw [hM] at c2 c3 e5 I;have j7:yN pcE 98 wr (b+1) (.slice la M.length Z) M:=(by rw [c3];exact I.out.own);obtain⟨G,eG,p4,p5,t,c4⟩:=j7.at i p c2;subst eG;obtain⟨p6,p7,p8,n1⟩:=HC.out i p H;have y0:wr.cell? ⟨G,i*10,none⟩=some (.int .i64 p.a):=t 0 _ rfl;have y1:wr.cell? ⟨G,i*10+1,none⟩=some (.int .i64 p.size):=t 1 _ rfl;have y2:wr.cell? ⟨G,i*10+2,none⟩=some (.int .i64 p.c0):=t 2 _ rfl;have y3:wr.cell? ⟨G,i*10+3,none⟩=some (.int .i64 p.c1):=t 3 _ rfl;have y4:wr.cell? ⟨G,i*10+4,none⟩=some (.int .u8 p.level):=t 4 _ rfl;have y5:wr.cell? ⟨G,i*10+5,none⟩=some (.string p.became):=t 5 _ rfl;have y6:wr.cell? ⟨G,i*10+6,none⟩=some (.string p.shown):=t 6 _ rfl;have y7:wr.cell? ⟨G,i*10+7,none⟩=some (.int .i64 p.wide):=t 7 _ rfl;have y8:wr.cell? ⟨G,i*10+8,none⟩=some (.int .i64 p.e0):=t 8 _ rfl;have y9:wr.cell? ⟨G,i*10+9,none⟩=some (.int .i64 p.e1):=t 9 _ rfl;have n2:=lh e5;have j8:=lh c3;have HP:=lh H;have j9:=lh c2;clear c2 c3 e5 hM j7 t c4 H;have j1:(p.c0:Int)≤(p.c1:Int):=(by omega);have j2:(p.c1:Int)≤(cc:Int):=(by have:=m9.out;omega);have j3:(0:Int)≤(p.c0:Int):=(by omega);go_upto_region 7 with fail;have Y:=qal wr (.cells #[p.a,p.size,p.c0,p.c1,.int .u8 p.level,p.became,p.shown,p.wide,p.e0,p.e1] 98);have a0:=zL wr (.cells #[p.a,p.size,p.c0,p.c1,.int .u8 p.level,p.became,p.shown,p.wide,p.e0,p.e1] 98);generalize wr.alloc _=W6 at Y a0 ⊢;obtain⟨P,hP⟩:=nm (wr.heap.size);have c5:=lh Y;rw [hP] at a0 ⊢;have n3:P<W6.heap.size:=(zH.1 a0).1;obtain⟨z0,z1,z2,z3⟩:=qc4 a0;have k0:=lh a0;clear y0 y1 y2 y3 y4 y5 y6 y7 y8 y9 Y a0;have i1:IntKind.i64.wrap ((p.a:Int)+(p.size:Int))=(p.a:Int)+(p.size:Int):=(by rw [ZH];omega);have i2:(p.a:Int)+(p.size:Int)≤(s.size:Int):=(by omega);have i3:(p.a:Int)≤(p.a:Int)+(p.size:Int):=(by omega);go_upto_region 9 with fail;have e6:=lh (Bad_any (s.extract p.a (p.a+p.size)) (by simp [ZV];omega) W6 (j5.out.below rfl c5.out));obtain⟨T,e7⟩:=nm (s.extract p.a (p.a+p.size));obtain⟨V,hV⟩:=nm (yHa T ((f.drop p.c0).take (p.c1-p.c0)) (decide (p.level % 2=1)));have k1:yC2 s f p={ p with became:=V }:=(by unfold yC2;rw [e7,hV]);have HV:=lh hV;have n4:=lh k1;rw [e7] at e6 ⊢;clear e7 hV k1;go_upto_if 59 with (go_at_call 129;refine e6.out.mono ?_;rintro e w7 ⟨ba,bn,bc,rfl,B,a4⟩);have e8:Hid (ChS w b (.slice (some ⟨G,0,none⟩) n Z) sv fr tt bs wide M w7):=lh (by have:=(I.out.below (hP▸c5.out)).below a4;rw [N.out] at this;exact this);have e9:Hid (Rd .i32 w7 (some ⟨l,0,none⟩) f):=lh ((n0.out.below (hP▸c5.out)).below a4);have f0:Hid (T8 w7):=lh ((j5.out.below rfl (hP▸c5.out)).below rfl a4);have f1:w7.heap[P]? = some (.cells #[p.a,p.size,p.c0,p.c1,.int .u8 p.level,p.became,p.shown,p.wide,p.e0,p.e1] 98 (0,0)):=(a4.block P n3).trans k0.out;have k4:=lh f1;have Q:=lh B;have p9:P<w7.heap.size:=(zH.1 f1).1;clear B a4 f1 z0 z1 z2 z3 k0 e6;go_cut [9] (fun v C=>v=.string V∧Rd .i32 C (some ⟨l,0,none⟩) f∧T8 C∧ChS w b (.slice (some ⟨G,0,none⟩) n Z) sv fr tt bs wide M C)
    case first =>
     cases hbd:badI T with
     | true =>
       have q1:((bn:Int)==0)=false:=by
        rw [zN];intro h;have:=Q.out.1 (by omega);rw [hbd] at this;cases this
       have n5:V=T:=(by rw [←HV.out];unfold yHa;rw [Zg hbd]);subst n5;go_wp2;go_meet;exact⟨rfl,e9.out,f0.out,e8.out⟩
     | false =>
       obtain rfl:bn=0:=Q.out.2 hbd;have k5:=lh (yOl p n1 w7);obtain⟨z0,z1,z2,z3,z4,z5,z6,z7,z8,z9⟩:=qc10 k4.out;go_upto_if 62 with (go_at_call 92;refine k5.out.mono ?_;rintro e d ⟨rfl,c6⟩);have k6:=lh (e8.out.below c6);have f2:=lh (e9.out.below c6);have k7:=lh (f0.out.below rfl c6);clear z0 z1 z2 z3 z4 z5 z6 z7 z8 z9 c6 k5 e8 e9 f0 k4;have c7:((f.drop p.c0).take (p.c1-p.c0)).length=p.c1-p.c0:=(by rw [za,zy,e2.out];omega);have c8:∀j,j<p.c1-p.c0→((f.drop p.c0).take (p.c1-p.c0)).getD j 0=yH f (p.c0+j):=fun j J=>by
        unfold yH;rw [zI,zv,Zg J,ZI,zI]
       obtain⟨O,k8⟩:=nm ((f.drop p.c0).take (p.c1-p.c0));rw [k8] at c7 c8 HV;have a5:∀j,j<O.length→d.cell? ((⟨l,p.c0,none⟩:Addr).add j)=some (.int .i32 (O.getD j 0)):=fun j J=>by
        rw [c8 j (by omega),JK];rcases f2.out with h | ⟨g,o,e,h1,h2⟩
        ·have:=e2.out;rw [h] at this;simp at this;omega
        ·cases e;have:=h2 (p.c0+j) (by rw [e2.out];omega);rw [Za] at this;exact this
       by_cases c9:p.level % 2=1
       ·have q2:((p.level:Int) % 2==1)=true:=(by rw [ZD];omega);have x:=a5 0 (by omega);rw [show ((⟨l,p.c0,none⟩:Addr).add 0)=⟨l,p.c0,none⟩ from rfl] at x;obtain⟨y,hy⟩:=nm (O.getD 0 0);rw [hy] at x;have n6:=lh c9;have g1:(0:Int)<((p.c1-p.c0:Nat):Int):=(by omega);clear c9;have a1:=lh c7;have n7:=lh a5;clear c7 c8 a5;obtain⟨q,hq⟩:=nm (p.c1-p.c0);rw [hq] at a1 g1 ⊢;have q3:0<q:=(by omega);by_cases n8:q=1
        case' neg =>
         have q4:(1:Int)<(q:Int):=(by omega);go_upto_region 11 with fail;obtain⟨S,U,a6⟩:∃S:World→Prop,(∀W:World,W.cell? ⟨l,p.c0,none⟩=some (.int .i32 y)→S W)∧(∀W:World,S W→W.cell? ⟨l,p.c0,none⟩=some (.int .i32 y)):=⟨fun W=>W.cell? ⟨l,p.c0,none⟩=some (.int .i32 y),fun _ h=>h,fun _ h=>h⟩;have F:=lh U;have k9:Nonempty (WIn S):=⟨⟨_,U _ x⟩⟩;have l0:∀q:WIn S,q.w.cell? ⟨l,p.c0,none⟩=some (.int .i32 y):=fun q=>a6 _ q.h;clear U a6;refine yBo S [([0,1,2,5,6],3),([],4),([],7)] [8] (by kernel_rfl) (by kernel_rfl) (F.out _ x) ?_;simp only [yIb,yS,zD,zE,zC,zB,zA];show wpQuiet _ _ _ _ [_,_,_,_,_] _
         repeat (go_big_quiet_step (fail))
         refine Zt ?_;intro K m;have r:=lh m;clear m;have a7:=lh (fun W=>yQk y W);show wpList _ _ _ [_] _ _;go_wp2_with (go_at_call 130;refine (a7.out _).mono ?_;rintro e D ⟨rfl,rfl⟩);refine r.out _ _ (F.out _ x) ?_;clear r a7;show wpQuiet _ _ _ _ [] _;refine Zt ?_;intro K m;have r:=lh m;clear m;show wpList _ _ _ [_] _ _;go_wp2;have B:Below d d (d.alloc (.cells #[.int .i32 (mirrorI y)] 21)):=(Zc d.heap.size d).alloc (zT _) _;have a8:d.heap.size≤(d.alloc (.cells #[.int .i32 (mirrorI y)] 21)).heap.size:=B.size;have a9:(d.alloc (.cells #[.int .i32 (mirrorI y)] 21)).ownsRow d.heap.size 21 1 (.slice (some ⟨d,0,none⟩) 1 1) 1 [.int .i32 (mirrorI y)]:=⟨rfl,.inr ⟨d.heap.size,1,_,rfl,zT _,zL d _,zT _,by decide,rfl,rfl⟩⟩;refine r.out _ _ (F.out _ (yB B (yD x) x)) ?_;clear r;have d1:=lh a9;have Q:=lh B;have n9:Hid (∀j u,(O.tail.map (Value.int .i32))[j]? = some u→(d.alloc (.cells #[.int .i32 (mirrorI y)] 21)).cell? ((⟨l,p.c0+1,none⟩:Addr).add j)=some u):=lh (fun j u hu=>by
          rw [zm] at hu;obtain⟨z,hz,rfl⟩:=Option.map_eq_some_iff.1 hu;rw [List.getElem?_tail] at hz;have o0:=(zG.1 hz).1;have h:=n7.out (j+1) o0;rw [zI,hz,JK,←qz,Nat.add_right_comm] at h;rw [JK];exact yB B (yD h) h)
         show wpQuiet _ _ _ _ [] _;refine Zt ?_;intro K m;have r:=lh m;clear m a9 B;show wpList _ _ _ [_] _ _;go_wp2_with (at_builtin;refine yDh _ rfl _ _ 121 rfl d.heap.size 21 i0 (.int .i32 0) 1 4 Tryz.underlying121 g0 g2 g3 g4 rfl (by decide) _ 1 _ rfl d1.out _ (q-1) _ (O.tail.map (Value.int .i32)) rfl (by rw [zK,List.length_tail,a1.out];omega) (.inr ⟨_,rfl,n9.out⟩) (fun u hu=>by obtain⟨z,_,rfl⟩:=ZG.1 hu;rfl) (by unfold maxLen;omega) (by omega) a8 ?_;intro v' D ho E);replace E:(d.alloc (.cells #[.int .i32 (mirrorI y)] 21)).drew.grownBy D (some d.heap.size):=E;have b0:Below d d D:=Q.out.drew.grown E a8 (fun k hk=>by cases hk;exact zT _);obtain⟨na,nc,f3,o1,_⟩:=yP ho;subst f3;obtain⟨G9,f4,o2,_,d2⟩:=yB2 ho (by omega);subst f4;have d3:∀j,j<(mirrorI y::O.tail).length→D.cell? ((⟨G9,0,none⟩:Addr).add j)=some (.int .i32 ((mirrorI y::O.tail).getD j 0)):=fun j J=>by
          have o3:j<q:=(by rw [zb,List.length_tail,a1.out] at J;omega);rw [JK,Za,d2 j (by omega)];rw [show [Value.int .i32 (mirrorI y)]++O.tail.map (Value.int .i32)=(mirrorI y::O.tail).map (Value.int .i32) from rfl,zm,zF J,zI,zF J];rfl
         have d4:=lh b0;have o4:(mirrorI y::O.tail).length=q:=(by rw [zb,List.length_tail,a1.out];omega);have d5:=run_convert_runes (P:=Tryz.prog) D 121 9 21 ⟨G9,0,none⟩ (1+(q-1)) nc (mirrorI y::O.tail) (by omega) Tryz.underlying121 (by kernel_rfl) (by kernel_rfl) d3
        case' pos =>
         subst n8;go_upto_region 11 with fail;obtain⟨S,U,a6⟩:∃S:World→Prop,(∀W:World,W.cell? ⟨l,p.c0,none⟩=some (.int .i32 y)→S W)∧(∀W:World,S W→W.cell? ⟨l,p.c0,none⟩=some (.int .i32 y)):=⟨fun W=>W.cell? ⟨l,p.c0,none⟩=some (.int .i32 y),fun _ h=>h,fun _ h=>h⟩;have F:=lh U;have k9:Nonempty (WIn S):=⟨⟨_,U _ x⟩⟩;have l0:∀q:WIn S,q.w.cell? ⟨l,p.c0,none⟩=some (.int .i32 y):=fun q=>a6 _ q.h;clear U a6;refine yBo S [([0,1,2,5,6],3),([],4),([],7)] [8] (by kernel_rfl) (by kernel_rfl) (F.out _ x) ?_;simp only [yIb,yS,zD,zE,zC,zB,zA];show wpQuiet _ _ _ _ [_,_,_,_,_] _
         repeat (go_big_quiet_step (fail))
         refine Zt ?_;intro K m;have r:=lh m;clear m;have a7:=lh (fun W=>yQk y W);show wpList _ _ _ [_] _ _;go_wp2_with (go_at_call 130;refine (a7.out _).mono ?_;rintro e D ⟨rfl,rfl⟩);refine r.out _ _ (F.out _ x) ?_;clear r a7;show wpQuiet _ _ _ _ [] _;refine Zt ?_;intro K m;have r:=lh m;clear m;show wpList _ _ _ [_] _ _;go_wp2;have B:Below d d (d.alloc (.cells #[.int .i32 (mirrorI y)] 21)):=(Zc d.heap.size d).alloc (zT _) _;have a8:d.heap.size≤(d.alloc (.cells #[.int .i32 (mirrorI y)] 21)).heap.size:=B.size;have a9:(d.alloc (.cells #[.int .i32 (mirrorI y)] 21)).ownsRow d.heap.size 21 1 (.slice (some ⟨d,0,none⟩) 1 1) 1 [.int .i32 (mirrorI y)]:=⟨rfl,.inr ⟨d.heap.size,1,_,rfl,zT _,zL d _,zT _,by decide,rfl,rfl⟩⟩;refine r.out _ _ (F.out _ (yB B (yD x) x)) ?_;clear r;have d1:=lh a9;have Q:=lh B;show wpQuiet _ _ _ _ [] _;refine Zt ?_;intro K m;have r:=lh m;clear m a9 B;show wpList _ _ _ [_] _ _;go_wp2_with (at_builtin;refine yDh _ rfl _ _ 121 rfl d.heap.size 21 i0 (.int .i32 0) 1 4 Tryz.underlying121 g0 g2 g3 g4 rfl (by decide) _ 1 _ rfl d1.out _ 0 _ [] rfl rfl (.inl rfl) (by simp [Value.oneCell']) (by unfold maxLen;omega) (by omega) a8 ?_;intro v' D ho E);replace E:(d.alloc (.cells #[.int .i32 (mirrorI y)] 21)).drew.grownBy D (some d.heap.size):=E;have b0:Below d d D:=Q.out.drew.grown E a8 (fun k hk=>by cases hk;exact zT _);obtain⟨na,nc,f3,o1,_⟩:=yP ho;subst f3;obtain⟨G9,f4,o2,_,d2⟩:=yB2 ho (by omega);subst f4;have d3:∀j,j<(mirrorI y::O.tail).length→D.cell? ((⟨G9,0,none⟩:Addr).add j)=some (.int .i32 ((mirrorI y::O.tail).getD j 0)):=fun j J=>by
          have o3:j<1:=(by rw [zb,List.length_tail,a1.out] at J;omega);rw [JK,Za,d2 j (by omega)];obtain rfl:j=0:=(by omega);rfl
         have d4:=lh b0;have o4:(mirrorI y::O.tail).length=1:=(by rw [zb,List.length_tail,a1.out]);have d5:=run_convert_runes (P:=Tryz.prog) D 121 9 21 ⟨G9,0,none⟩ (1+0) nc (mirrorI y::O.tail) (by omega) Tryz.underlying121 (by kernel_rfl) (by kernel_rfl) d3
        all_goals
         have b1:V=runesBytes (mirrorI y::O.tail):=by
          rw [←HV.out];unfold yHa;rw [hbd,Zf (by decide),zQ n6.out,Zg rfl,yHc];unfold yH;rw [hy]
         rw [qU (by omega),←b1] at d5;refine r.out _ _ (F.out _ (yB b0 (yD x) x)) ?_;clear r d1 Q ho E d2 d3 b1 b0;simp only [Act.put,zg,zh,zi];show wpQuiet _ _ _ _ [_] _
         repeat (go_big_quiet_step (fail))
         refine Zt ?_;refine NoPanic.normal ?_;clear l0 k9 F;go_wp2;go_meet;exact⟨rfl,f2.out.below d4.out,k7.out.below rfl d4.out,k6.out.below d4.out⟩
       ·have o5:p.level % 2=0:=(by omega);have b1:V=runesBytes O:=by
         rw [←HV.out];unfold yHa;rw [hbd,Zf (by decide),zP c9,Zf (by decide),yHc]
        have d5:=run_convert_runes (P:=Tryz.prog) d 121 9 21 ⟨l,p.c0,none⟩ (p.c1-p.c0) (p.c1-p.c0) O (by omega) Tryz.underlying121 (by kernel_rfl) (by kernel_rfl) a5;rw [qU (by omega),←b1] at d5;have q6:((p.level:Int) % 2==1)=false:=(by rw [zN];omega);have q7:(((p.level % 2:Nat):Int)==1)=false:=(by rw [zN];omega);clear a5 c7 c8 c9 o5 b1 k8;go_wp2;go_meet;exact⟨rfl,f2.out,k7.out,k6.out⟩
    case rest =>
     obtain⟨rfl,l1,l2,f6⟩:=hcut;have f7:ChS w b (.slice (some ⟨G,0,none⟩) M.length Z) sv fr tt bs wide M wc:=(by rw [j8.out,N.out];exact f6);obtain⟨G',eG,_,_,t,c4⟩:=f7.own.at i p j9.out;cases eG;have q0:wc.cell? ⟨b,0,none⟩=some (.slice (some ⟨G,0,none⟩) n Z):=f6.ld.cells.1;have q5:wc.cell? ⟨G,i*10+5,none⟩=some (.string p.became):=t 5 _ rfl;have f5:=c4 (i*10+5);have d6:=f7.set i p j9.out V;rw [←n4.out,n2.out] at d6;rw [j8.out,N.out] at d6;have o6:=lh d6;have o7:Hid (Rd .i32 (wc.setCell ⟨G,i*10+5,none⟩ (.string V)) (some ⟨l,0,none⟩) f):=lh (yO1 l1 (by have:G<w.heap.size:=l4.out G rfl;omega));have o8:Hid (T8 (wc.setCell ⟨G,i*10+5,none⟩ (.string V))):=lh (T8.keep l2 l5.out l6.out ((Zc b wc).setCell (p:=⟨G,i*10+5,none⟩) (show b≤G by omega) _));clear l1 l2 f6 f7 t c4 d6;go_wp2;go_roundw
     case rel=>exact⟨i+1,by omega,by go_num,o7.out,o8.out,by rw [N.out];exact o6.out⟩
     case measure=>simp [intOf];omega
   ·obtain rfl:i=n:=(by omega);have e1:chP s f L i=L.map (yC2 s f):=(by rw [←N.out];exact chP_all s f L);rw [e1] at I;rw [←m4.out] at I;clear j6 e1;go_wp2
    go_end0
    exact⟨rfl,I.out.ld,I.out.own,I.out.bel⟩
theorem rBlank_any (s:ByteArray) (U:s.size≤2097152) (b:Nat) (lv E:Value) (fr F H:Nat) (I:Int) (L:List Pc) (w:World) (z:LdB w b lv E fr F H I) (n:yN pcE 98 w (b+1) lv L) (A:T8 w)
 (i:Nat) (p:Pc) (o:L[i]? = some p) (W:p.a≤s.size) :
 Calls Tryz.prog 86 #[.pointer (some ⟨b,0,none⟩),s,i] w fun e w'=>e=.returned (.bool (yMt s p))∧Below w w w':=by
 have X:=(zG.1 o).1;obtain⟨Y,Z,J,_,_⟩:=n.slice;subst J;obtain⟨G,K,a0,a1,B,M⟩:=n.at i p o;subst K;have N:w.cell? ⟨G,i*10,none⟩=some (.int .i64 p.a):=B 0 _ rfl;have O:=z.cells.1;have g0:(p.a:Int)≤(s.size:Int):=by omega
 have g1:(i:Int)<(L.length:Int):=by omega
 obtain⟨c,P⟩:=nm (s.extract p.a s.size);obtain⟨r,q⟩:=nm (yAh c);obtain⟨m,t⟩:=nm (yAa c);obtain⟨V,u⟩:=nm (yMt s p);have d:V=((!decide (r=65533)||decide (1<m))&&decide (yEn r=1)):=by rw [←u,←q,←t,←P];rfl
 have v:=yD4 c w A;rw [q,t] at v;have Q:=lh v;have h:=lh d;rw [u];clear z n A B M v d u q t o;go_enter Tryz.func86,Tryz.ntmps86;go_upto_region 3 with (go_at_call 95;refine Q.out.mono ?_;rintro e w1 ⟨rfl,C⟩);have f:=lh C;clear C O N;obtain⟨k,j⟩:=nm (yEn r);have l:=lh (yJl r w1);have d:=h.out;rw [j] at l d;by_cases x:r=65533
 ·subst x;by_cases D:1<m
  ·have R:(1:Int)<(m:Int):=(by omega);have g:=lh d;clear j d h;go_wp2_with (go_at_call 96;refine l.out.mono ?_;rintro e S ⟨rfl,y⟩);go_ret;exact⟨yAk (by rw [g.out];simp only [zQ D,Bool.or_true,Bool.true_and];rw [ZY];simp),f.out.trans (y.mono f.out.size)⟩
  ·have R:¬ (1:Int)<(m:Int):=(by omega);have g:=lh d;clear j d h l;go_wp2;go_ret;exact⟨yAk (by rw [g.out];simp [D]),f.out⟩
 ·have a2:(r==65533)=false:=(by rw [zN];exact x);have g:=lh d;have T:=lh x;clear j d h;go_wp2_with (go_at_call 96;refine l.out.mono ?_;rintro e S ⟨rfl,y⟩);go_ret;exact⟨yAk (by rw [g.out];simp only [zP T.out,Bool.not_false,Bool.true_or,Bool.true_and];rw [ZY];simp),f.out.trans (y.mono f.out.size)⟩
end
section
theorem yNs (s:ByteArray):∀(f a:Nat),a≤s.size→∀q∈piecesF s f a,a≤q.1
 | 0,a,ha,q,b=>by simp [piecesF] at b
 | f+1,a,ha,q,b=>by
   rw [piecesF] at b;by_cases h:a<s.size
   ·rw [Zg h] at b;have c:=yJ s a ha;have d:=yY (s.extract a s.size) (by omega);rcases zX.1 b with rfl | b
    ·exact zT _
    ·have:=yNs s f _ (by omega) q b;omega
   ·rw [Zf h] at b;cases b
theorem yOt (s:ByteArray):∀(f a:Nat),a≤s.size→(piecesF s f a).Pairwise (fun p q=>p.1+p.2.size≤q.1)
 | 0,a,ha=>by simp [piecesF]
 | f+1,a,ha=>by
   rw [piecesF];by_cases h:a<s.size
   ·rw [Zg h];have d:=yJ s a ha;have e:=yY (s.extract a s.size) (by omega);have b:(s.extract a (a+nextI (s.extract a s.size))).size=nextI (s.extract a s.size):=(by simp [ZV];omega);refine qN.2 ⟨fun q c=>?_,yOt s f _ (by omega)⟩;have:=yNs s f _ (by omega) q c;show a+(s.extract a (a+nextI (s.extract a s.size))).size≤q.1;rw [b];exact this
   ·rw [Zf h];exact List.Pairwise.nil
theorem inPs_pw (s:ByteArray) (fr a:Nat):(inPs s fr a).Pairwise (fun p q=>p.1+p.2.size≤q.1):=(yOt s s.size 0 (zd _)).filter _
theorem yJk:∀(b:List (Nat × ByteArray)) (n:Nat),(findF b n).map (fun p=>(p.a,p.size,p.level))=b.map (fun q=>(q.1,q.2.size,0))
 | [],_=>rfl
 | p::t,n=>by rw [findF,Zd,yJk t,Zd];rfl
theorem yQ0 {α:Type} (f:Pc→α) (e:∀(p:Pc) (a:ByteArray) (b:Int),f { p with shown:=a,wide:=b }=f p) (rw tab:Int) (c d:Bool):∀(L:List Pc) (i:Nat) (x t:Int),(yGl rw tab c d L i x t).1.map f=L.map f
 | [],_,_,_=>rfl
 | p::L,i,x,t=>by
   rw [yDu];by_cases h:0≤tlF rw i x (yx p.became x tab c d).2 t
   ·rw [Zg h];dsimp only;rw [Zd,e,yQ0 f e rw tab c d L,Zd]
   ·rw [Zf h];dsimp only;rw [Zd,yQ0 f e rw tab c d L,Zd]
theorem set_map {α:Type} (f:Pc→α) (L:List Pc) (i:Nat) (q:Pc) (h:f q=f (L.getD i default)):(L.set i q).map f=L.map f:=by
 apply qK;intro j;rw [zm,zm,ZP];by_cases e:i=j
 ·subst e;rw [Zg rfl];by_cases a:i<L.length
  ·rw [Zg a,zF a];simp only [Option.map_some];rw [h,zI,zF a];rfl
  ·rw [Zf a,qD (by omega)]
 ·rw [Zf e]
theorem yL0 {α:Type} (f:Pc→α) (c:∀(p:Pc) (a b:Int),f { p with e0:=a,e1:=b }=f p):∀(o:List Int) (x:Int) (L:List Pc),(yDo o x L).map f=L.map f
 | [],_,_=>rfl
 | i::t,x,L=>by rw [yDo,yL0 f c t,set_map f L _ _ (c _ _ _)]
theorem change_map {α:Type} (f:Pc→α) (b:∀(p:Pc) (a:ByteArray),f { p with became:=a }=f p) (s:ByteArray) (c:List Int) (L:List Pc):(L.map (yC2 s c)).map f=L.map f:=by
 rw [zx];exact List.map_congr_left fun p _=>b p _
theorem yQ3 (p:Pc):(cellsP p).length=p.wide.toNat:=by unfold cellsP;simp
theorem leftF_le (c:Int):∀L:List Pc,leftF c L≤L.length
 | []=>zT _
 | p::t=>by
   rw [leftF];split
   ·have:=leftF_le c t;simp;omega
   ·exact zd _
theorem wsum_map:∀(A B:List Pc),A.map (·.wide)=B.map (·.wide)→yHd A=yHd B
 | [],[],_=>rfl
 | [],_::_,h=>by cases h
 | _::_,[],h=>by cases h
 | a::A,b::B,h=>by
   rw [Zd,Zd] at h;obtain⟨c,d⟩:=List.cons.inj h;rw [yHd,yHd,wsum_map A B d,c]
theorem yQ7:∀(a:List (Nat × ByteArray)) (n:Nat),∀p∈findF a n,p.wide=0∧p.level=0
 | [],_,p,h=>by cases h
 | q::t,n,p,h=>by
   rw [findF] at h;rcases zX.1 h with rfl | h
   ·exact⟨rfl,rfl⟩
   ·exact yQ7 t _ p h
theorem yKc {α:Type} (f:Pc→α) (a:∀(p:Pc) (l:Nat),f { p with level:=l }=f p) (s:ByteArray) (b:Int) (c:Bool) (fr:Nat) (L:List Pc):(yFv s b c fr L).map f=L.map f:=by
 unfold yFv;split
 ·rfl
 ·rw [zx];exact List.map_congr_left fun p _=>a p _
theorem yGf {α:Type} (f:Pc→α) (d:∀(p:Pc) (l:Nat),f { p with level:=l }=f p) (e:∀(p:Pc) (a:ByteArray),f { p with became:=a }=f p) (s:ByteArray) (g:Int) (h i:Bool) (b c:Int) :
 (lay2 s g h i b c).map f=(yAo s (ym s b) (yk s b c)).map f:=by
 unfold lay2;rw [change_map f e,yKc f d]
theorem yIc {α:Type} (f:Pc→α) (g:∀(p:Pc) (a:ByteArray) (b:Int),f { p with shown:=a,wide:=b }=f p) (h:∀(p:Pc) (a b:Int),f { p with e0:=a,e1:=b }=f p)
 (s:ByteArray) (i c:Int) (j d e:Bool) (ra rl rw:Int):(layL s i c j d e ra rl rw).map f=(lay2 s c d e ra rl).map f:=by
 unfold layL lay3;rw [yL0 f h,yQ0 f g]
theorem yDz {α β:Type} {f:α→β} {A B:List α} (h:A.map f=B.map f) {a:α} (c:a∈A):∃b∈B,f b=f a:=by
 have:f a∈B.map f:=by rw [←h];exact List.mem_map_of_mem c
 obtain⟨b,d,e⟩:=ZG.1 this;exact⟨b,d,e⟩
theorem yMo (s:ByteArray) (a:Int) (b c:Bool) (d f:Int):∀p∈lay2 s a b c d f,p.wide=0:=fun p g=>by
 obtain⟨q,h,e⟩:=yDz (yGf (fun p=>p.wide) (fun _ _=>rfl) (fun _ _=>rfl) s a b c d f) g;rw [←e];exact (yQ7 _ _ q h).1
theorem lay3_bd (s:ByteArray) (h b:Int) (i c a:Bool) (d f rw:Int):∀q∈(lay3 s h b i c a d f rw).1,0≤q.wide∧q.wide≤19:=fun q n=>by
 obtain⟨j,g,e⟩:=List.mem_iff_getElem.1 n;unfold lay3 at g e;have k:=g;rw [yIt] at k;obtain⟨p,l⟩:∃p,(lay2 s b c a d f)[j]? = some p:=⟨_,zF k⟩;obtain⟨r,m,o⟩:=yO7 rw h i a _ 0 0 (yHt s (lay2 s b c a d f) (lay2 s b c a d f).length) j p l;rw [zF g,e] at m;have:=zu m;subst this;rcases o with rfl | ⟨x,rfl⟩
 ·have:=yMo s b c a d f q (zS l);omega
 ·exact yGj _ _ _ _ _
theorem yMs (s:ByteArray) (a b:Int) (c d e:Bool) (ra rl rw:Int):(layL s a b c d e ra rl rw).map (·.wide)=(lay3 s a b c d e ra rl rw).1.map (·.wide):=by
 unfold layL;exact yL0 (fun p=>p.wide) (fun _ _ _=>rfl) _ _ _
theorem layL_bd (s:ByteArray) (a b:Int) (c d f:Bool) (g h rw:Int):∀q∈layL s a b c d f g h rw,0≤q.wide∧q.wide≤19:=fun q i=>by
 obtain⟨p,j,e⟩:=yDz (yMs s a b c d f g h rw) i;have:=lay3_bd s a b c d f g h rw p j;omega
theorem yPv (s:ByteArray) (d a:Int) (e b c:Bool) (ra rl rw:Int):(lay3 s d a e b c ra rl rw).2=yHd (layL s d a e b c ra rl rw):=by
 rw [wsum_map _ _ (yMs s d a e b c ra rl rw)];unfold lay3;rw [yQg _ _ _ _ _ _ _ _ (yMo s a b c ra rl)];omega
theorem yLn (s:ByteArray) (d a:Int) (e b c:Bool) (ra rl rw:Int):(layL s d a e b c ra rl rw).length=(lay2 s a b c ra rl).length:=by
 unfold layL lay3;rw [edgeF_len,yIt]
theorem lay2_len (s:ByteArray) (d:Int) (e f:Bool) (b c:Int):(lay2 s d e f b c).length=(yAo s (ym s b) (yk s b c)).length:=by
 have:=Zb List.length (yGf (fun p=>p.a) (fun _ _=>rfl) (fun _ _=>rfl) s d e f b c);simpa using this
theorem layL_pw (s:ByteArray) (b c:Int) (d e f:Bool) (ra rl rw:Int):(layL s b c d e f ra rl rw).Pairwise (fun p q=>p.a+p.size≤q.a):=by
 have h:(layL s b c d e f ra rl rw).map (fun p=>(p.a,p.size))=(inPs s (ym s ra) (yk s ra rl)).map (fun q=>(q.1,q.2.size)):=by
  rw [yIc (fun p=>(p.a,p.size)) (fun _ _ _=>rfl) (fun _ _ _=>rfl),yGf (fun p=>(p.a,p.size)) (fun _ _=>rfl) (fun _ _=>rfl)];have:=Zb (List.map (fun x:Nat × Nat × Nat=>(x.1,x.2.1))) (yJk (inPs s (ym s ra) (yk s ra rl)) 0);rw [zx,zx] at this;exact this
 have g:((inPs s (ym s ra) (yk s ra rl)).map (fun q=>(q.1,q.2.size))).Pairwise (fun x y:Nat × Nat=>x.1+x.2≤y.1):=List.pairwise_map.2 (inPs_pw s _ _);rw [←h] at g;exact List.pairwise_map.1 g
theorem rowA_le (s:ByteArray) (a:Int):yN8 s a≤s.size:=by unfold yN8;omega
theorem yJe (s:ByteArray) (a b:Int):yN8 s a≤rowB s a b∧rowB s a b≤s.size:=by
 have:=rowA_le s a;unfold rowB;omega
theorem runes_two {s:ByteArray} {a b c k m n:Nat} (d:yQ s a k) (e:yQ s b m) (f:yQ s c n) (g:a≤b) (h:b≤c) :
 (yE (s.extract a c)).length=(yE (s.extract a b)).length+(yE (s.extract b c)).length:=by
 have i:=yD6 d e g;have j:=yD6 e f h;have l:=yD6 d f (zY g h);have o:inPs s a c=inPs s a b++inPs s b c:=by
  have:=l.1;rw [i.1,j.1,←zZ] at this;exact (List.append_cancel_right this).symm
 rw [yJa (s.extract a c),yJa (s.extract a b),yJa (s.extract b c),←l.2.1,←i.2.1,←j.2.1,o,zW,zU,zJ]
theorem yIh (s:ByteArray) (b c:Int):ym s b≤yk s b c∧yk s b c≤s.size∧(yAo s (ym s b) (yk s b c)).length≤s.size ∧
 (∀(i:Nat) (p:Pc),(yAo s (ym s b) (yk s b c))[i]? = some p→p.c0<p.c1∧p.c1≤(yE (s.extract (ym s b) (yk s b c))).length∧p.a+p.size≤s.size∧0<p.size∧p.c0<yEu (yAo s (ym s b) (yk s b c))) ∧
 (yE (s.extract 0 (ym s b))).length+yEu (yAo s (ym s b) (yk s b c))≤(yE s).length:=by
 obtain⟨o,g,_,_⟩:=yFh s (yN8 s b) (rowA_le s b);obtain⟨q,e,_,_⟩:=yFh s (rowB s b c) (yJe s b c).2;have h:ym s b≤yk s b c:=upB_mono s _ _ (yJe s b c).1 (yJe s b c).2;have j:yk s b c≤s.size:=e.1;change yQ s (ym s b) o at g;change yQ s (yk s b c) q at e;have k:=fun i p d=>found_get g e h i p d;have r:(yAo s (ym s b) (yk s b c)).length≤s.size:=by
  unfold yAo;rw [yD5];unfold inPs;have t:=List.length_filter_le (fun p:Nat × ByteArray=>decide (ym s b≤p.1)&&decide (p.1<yk s b c)) (yF s);have l:=yAj s;omega
 have u:yEu (yAo s (ym s b) (yk s b c))≤(yE (s.extract (ym s b) (yk s b c))).length∧∀(i:Nat) (p:Pc),(yAo s (ym s b) (yk s b c))[i]? = some p→yEu (yAo s (ym s b) (yk s b c))=(yE (s.extract (ym s b) (yk s b c))).length:=by
  have m:∀n,(yAo s (ym s b) (yk s b c)).length=n+1→yEu (yAo s (ym s b) (yk s b c))=(yE (s.extract (ym s b) (yk s b c))).length:=fun n f=>by
   obtain⟨p,d⟩:∃p,(yAo s (ym s b) (yk s b c))[n]? = some p:=⟨_,zF (by omega)⟩;have:=(k n p d).2.2.2.2.2.2.2 f.symm;unfold yEu;rw [JR,qx,f,Ze,d];exact this
  refine⟨?_,fun i p d=>?_⟩
  ·cases f:(yAo s (ym s b) (yk s b c)).length with
   | zero =>
     rw [ZE.1 f];exact zd _
   | succ n=>exact Nat.le_of_eq (m n f)
  ·have:=(zG.1 d).1;exact m ((yAo s (ym s b) (yk s b c)).length-1) (by omega)
 refine⟨h,j,r,fun i p d=>?_,?_⟩
 ·obtain⟨y,z,v,A,w,x,B,C⟩:=k i p d;exact⟨w,x,by omega,v,by rw [u.2 i p d];omega⟩
 ·have t:=runes_two (yQ.zero s) g e (zd _) h;have l:=runes_two (yQ.zero s) e (yIn s) (zd _) j;rw [ByteArray.extract_zero_size] at l;omega
theorem becomeI_size (T:ByteArray) (O:List Int) (b:Bool) (d:T.size≤2097152) (e:O.length≤2097152):(yHa T O b).size≤8388612:=by
 unfold yHa;have c:=runesBytes_size_le O;have a:=runesBytes_size_le (mirrorI (yH O 0)::O.tail);rw [yHc] at c a;rw [zb,List.length_tail] at a;split
 ·omega
 split <;> omega
theorem lay2_get (s:ByteArray) (n:s.size≤2097152) (g:Int) (f h:Bool) (b c:Int) (i:Nat) (p:Pc) (d:(lay2 s g f h b c)[i]? = some p) :
 p.a+p.size≤s.size∧0<p.size∧p.became.size≤8388612∧p.wide=0:=by
 have hw:=yMo s g f h b c p (zS d);obtain⟨q,k,e⟩:=yDz (yGf (fun p=>(p.a,p.size)) (fun _ _=>rfl) (fun _ _=>rfl) s g f h b c) (zS d);obtain⟨j,l⟩:=qk.1 k;have o:=(yIh s b c).2.2.2.1 j q l;simp only [Prod.mk.injEq] at e;refine⟨by omega,by omega,?_,hw⟩;unfold lay2 at d;rw [zm] at d;obtain⟨r,t,m⟩:=Option.map_eq_some_iff.1 d;rw [←m];refine becomeI_size _ _ _ ?_ ?_
 ·simp [ZV];omega
 ·have u:=madeI_len s f (ym s b) (yk s b c);have v:=yG2 (s.extract (ym s b) (yk s b c));have w:(s.extract (ym s b) (yk s b c)).size≤s.size:=(by simp [ZV];omega);rw [za,zy];omega
theorem seen_get (a:List Nat) (n k:Nat) (c:a.length=n) (b:k<n):∃j:Nat,j<n∧(orderI a)[k]? = some (j:Int):=by
 subst c;refine⟨oF (lvF a) a.length (0+1) (topF a a.length) k,oF_lt _ _ _ b,?_⟩;unfold orderI yAl;rw [zm,JO b];rfl
theorem yJj (a:List Nat):(orderI a).length=a.length:=by unfold orderI;rw [yBi]
theorem edgeF_step (i:Nat) (t:List Int) (x:Int) (L:List Pc) (p:Pc) (h:L[i]? = some p):yDo ((i:Int)::t) x L=yDo t (x+p.wide) (L.set i { p with e0:=x,e1:=x+p.wide }):=by
 have a:L.getD i default=p:=by rw [zI,h];rfl
 rw [yDo,ZC,a]
theorem tailF_out (s:ByteArray) (L:List Pc) (t:Nat) (h:yMt s (L.getD t default)=true):yHt s L (t+1)=yHt s L t:=by rw [yHt,Zg h]
theorem tailF_in (s:ByteArray) (L:List Pc) (t:Nat) (h:yMt s (L.getD t default)=false):yHt s L (t+1)=t+1:=by rw [yHt,h,Zf (by decide)]
end
end Go.Proofs.YtncplikdjcmoeaaGreatDoor
