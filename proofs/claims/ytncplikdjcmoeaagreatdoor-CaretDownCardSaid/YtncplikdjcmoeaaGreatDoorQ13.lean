/- Lemmas, part 13: no further condition than each states. -/
import Derived.Test.YtncplikdjcmoeaaGreatDoorQ12
namespace Go.Proofs.YtncplikdjcmoeaaGreatDoor
set_option linter.unusedVariables false
set_option linter.unusedSimpArgs false
set_option maxRecDepth 100000
set_option maxHeartbeats 4000000
section
def stK (tab want:Int) (wideA join raw:Bool) (x:OneR):List St:=(stopsI (layI x.line tab want wideA join raw x.r.a x.r.len x.r.wide) x.r.fin).map fun s=>{ s with a:=s.a+x.at' }
def yBv (a:Int):List OneR→Nat→Int→Int
 | [],_,k=>k
 | x::t,i,k=>yBv a t (i+1) (if yW x≤a then (i:Int) else k)
def yEt (L:List OneR) (a:Int) (back:Bool) (k:Int):Bool :=
 decide (0<k)&&back&&decide (yW (L.getD k.toNat default)=a)&&decide (yE0 (L.getD (k.toNat-1) default)=a)&&cutR (L.getD (k.toNat-1) default)
def yBm (L:List OneR) (a:Int) (back:Bool):Int:=if yEt L a back (yBv a L 0 (-1))=true then yBv a L 0 (-1)-1 else yBv a L 0 (-1)
def yCs (a:Nat) (back:Bool):List St→Nat→Int→Int
 | [],_,f=>f
 | s::t,i,f=>yCs a back t (i+1) (if s.a=a∧(f<0∨s.back=back) then (i:Int) else f)
def yEo (T:ByteArray) (tab want:Int) (wideA join raw:Bool) (L:List OneR) (c:Int) (back:Bool):Int × Int :=
 (yBm L (ctI T c) back,yCs (ctI T c) back (stK tab want wideA join raw (L.getD (yBm L (ctI T c) back).toNat default)) 0 (-1))
def yMi (x y:St):Prop:=¬ (x.a=y.a∧x.back=y.back)
theorem yMi.symm {x y:St} (h:yMi x y):yMi y x:=fun ⟨a,b⟩=>h ⟨a.symm,b.symm⟩
theorem yQa (x:St):∀l:List St,(∀y∈l,yMi x y)→l.Pairwise yMi→(yAb x l).Pairwise yMi
 | [],_,_=>by rw [yAb];exact qt _ _
 | y::t,h,hp=>by
   rw [yAb];split
   ·first
     | exact qN.2 ⟨h,hp⟩
     | exact qN.2 ⟨fun z a=>by
        rcases (yGd x t z).1 a with rfl | a
        ·exact (h y (zR ..)).symm
        ·exact (qN.1 hp).1 z a,yQa x t (fun z a=>h z (zc _ a)) (qN.1 hp).2⟩
   ·first
     | exact qN.2 ⟨h,hp⟩
     | exact qN.2 ⟨fun z a=>by
        rcases (yGd x t z).1 a with rfl | a
        ·exact (h y (zR ..)).symm
        ·exact (qN.1 hp).1 z a,yQa x t (fun z a=>h z (zc _ a)) (qN.1 hp).2⟩
theorem isrt_dif:∀l:List St,l.Pairwise yMi→(yAc l).Pairwise yMi
 | [],_=>by rw [yAc];exact List.Pairwise.nil
 | x::t,h=>by
   rw [yAc];exact yQa x _ (fun y a=>(qN.1 h).1 y ((yCy t y).1 a)) (isrt_dif t (qN.1 h).2)
theorem yG5 (W:LaidR) (d:Bool) (i p:Nat) (b:St) (h:b∈yA7 W d i p):b.a=p∧(b.back=true→W.fr<p)∧(b.back=false→yHx W d p=true):=by
 unfold yA7 at h;rcases ZF.1 h with h | h
 ·split at h
  ·rename_i f;rcases zO.1 h with rfl;exact⟨rfl,(fun e=>by cases e),fun _=>f⟩
  ·cases h
 ·split at h
  ·rename_i c;rcases zO.1 h with rfl;unfold hasB at c;rw [ZU] at c;exact⟨rfl,fun _=>JZ c.1,fun e=>by cases e⟩
  ·cases h
theorem yMw (W:LaidR) (d:Bool):∀(L:List Pc) (i:Nat) (b:St),b∈stopsF W d L i→((∃p∈L,b.a=p.a)∨b.a=W.tt)∧(b.back=true→W.fr<b.a)∧(b.back=false→yHx W d b.a=true)
 | [],i,b,h=>by
   rw [stopsF] at h;obtain⟨c,f,g⟩:=yG5 W d i W.tt b h;exact⟨.inr c,fun e=>by rw [c];exact f e,fun e=>by rw [c];exact g e⟩
 | p::t,i,b,h=>by
   rw [stopsF] at h;rcases ZF.1 h with h | h
   ·obtain⟨c,f,g⟩:=yG5 W d i p.a b h;exact⟨.inl ⟨p,zR ..,c⟩,fun e=>by rw [c];exact f e,fun e=>by rw [c];exact g e⟩
   ·obtain⟨c,f⟩:=yMw W d t _ b h;exact⟨c.imp (fun ⟨q,hq,e⟩=>⟨q,zc _ hq,e⟩) id,f⟩
theorem yQs (W:LaidR) (a:Bool) (i p:Nat):(yA7 W a i p).Pairwise yMi:=by
 unfold yA7;split <;> split
 ·rw [ZN];exact qN.2 ⟨fun y b=>by
   rcases zO.1 b with rfl;exact fun ⟨_,e⟩=>(by cases e),qt _ _⟩
 ·rw [zq];exact qt _ _
 ·rw [zp];exact qt _ _
 ·exact List.Pairwise.nil
theorem yPi (W:LaidR) (b:Bool):∀(L:List Pc) (i:Nat),L.Pairwise (fun p q=>p.a+p.size≤q.a)→(∀p∈L,p.a+p.size≤W.tt∧0<p.size)→(stopsF W b L i).Pairwise yMi
 | [],i,_,_=>by rw [stopsF];exact yQs W b i W.tt
 | p::t,i,hp,hs=>by
   rw [stopsF];refine qO.2 ⟨yQs W b i p.a,yPi W b t _ (qN.1 hp).2 (fun q c=>hs q (zc _ c)),fun x d y f=>?_⟩;have g:=(yG5 W b i p.a x d).1;have h:=hs p (zR ..);have j:p.a<y.a:=by
    rcases (yMw W b t _ y f).1 with ⟨q,c,e⟩ | e
    ·have:=(qN.1 hp).1 q c;omega
    ·omega
   exact fun ⟨e,_⟩=>by omega
theorem upB_bord {s:ByteArray} {a k:Nat} (h:yQ s a k):upB s a=a:=by
 obtain⟨_,_,c,b⟩:=yFh s a h.1;have:=b a k h (zT _);omega
theorem row_fr {s:ByteArray} {a k:Nat} (h:yQ s a k):ym s (a:Int)=a:=by
 unfold ym yN8;have:=h.1;rw [show min (a:Int).toNat s.size=a by omega];exact upB_bord h
theorem row_tt {s:ByteArray} {a len k:Nat} (h:yQ s (a+len) k):yk s (a:Int) (len:Int)=a+len:=by
 unfold yk rowB yN8;have:=h.1;rw [show min (a:Int).toNat s.size+min (len:Int).toNat (s.size-min (a:Int).toNat s.size)=a+len by omega];exact upB_bord h
theorem rawS_facts (s:ByteArray) (c d:Int) (f g h:Bool) (j fin:Int) (a len Q I:Nat) (v:yQ s a Q) (n:yQ s (a+len) I) :
 (∀b∈stopsI (layI s c d f g h a len j) fin,a≤b.a∧b.a≤a+len∧(∃k,yQ s b.a k)∧(b.back=true→a<b.a)∧(b.a=a+len→yDm fin=true→0<len→b.back=true)) ∧
   (stopsI (layI s c d f g h a len j) fin).Pairwise yMi∧(∃b∈stopsI (layI s c d f g h a len j) fin,b.a=a∧b.back=false):=by
 obtain⟨W,w⟩:=nm (layI s c d f g h a len j);have B:W.fr=a:=by rw [←w];exact row_fr v
 have o:W.tt=a+len:=by rw [←w];exact row_tt n
 obtain⟨C,D⟩:=layL_pos s c d f g h a len j;have J:=layL_pw s c d f g h a len j;have y:(layL s c d f g h a len j).map (fun p=>(p.a,p.size))=(inPs s (ym s a) (yk s a len)).map (fun q=>(q.1,q.2.size)):=by
  rw [yIc (fun p=>(p.a,p.size)) (fun _ _ _=>rfl) (fun _ _ _=>rfl),yGf (fun p=>(p.a,p.size)) (fun _ _=>rfl) (fun _ _=>rfl)];have:=Zb (List.map (fun x:Nat × Nat × Nat=>(x.1,x.2.1))) (yJk (inPs s (ym s a) (yk s a len)) 0);simpa [zx,yAo,Function.comp_def] using this
 rw [row_fr v,row_tt n] at y;obtain⟨E,g2,g3,R,pre,S,g6,g7⟩:=yD6 v n (by omega);have K:W.l=layL s c d f g h a len j:=by rw [←w];rfl
 rw [←K] at y C D J;rw [row_tt n] at C D;have L:∀p∈W.l,a≤p.a∧p.a<a+len∧∃k,yQ s p.a k:=fun p m=>by
  have M:(p.a,p.size)∈W.l.map (fun p=>(p.a,p.size)):=ZG.2 ⟨p,m,rfl⟩;rw [y] at M;obtain⟨q,N,e⟩:=ZG.1 M;simp only [Prod.mk.injEq] at e;have:=R q N;have T:q∈yF s:=(by rw [S];simp [N]);obtain⟨i,r⟩:=qk.1 T;have O:=(yH9 r).1;rw [e.1] at O;exact⟨by omega,by omega,i,O⟩
 have U:∀b∈rawS W fin,a≤b.a∧b.a≤a+len∧(∃k,yQ s b.a k)∧(b.back=true→a<b.a)∧(b.a=a+len→yDm fin=true→0<len→b.back=true):=fun b z=>by
  unfold rawS at z;obtain⟨F,A,V⟩:=yMw W (yDm fin) W.l 0 b z;rw [B] at A;have G:a≤b.a∧b.a≤a+len∧∃k,yQ s b.a k:=by
   rcases F with ⟨p,m,e⟩ | e
   ·obtain⟨X,q2,Y⟩:=L p m;rw [e];exact⟨X,by omega,Y⟩
   ·rw [e,o];exact⟨by omega,zT _,I,n⟩
  refine⟨G.1,G.2.1,G.2.2,A,fun e Z K=>?_⟩;cases hbk:b.back with
  | true=>rfl
  | false =>
    have:=V hbk;unfold yHx at this;rw [B,o,e,Z] at this;simp at this;omega
 rw [w,yEi];refine⟨fun b z=>U b ((yCy _ b).1 z),isrt_dif _ (yPi W (yDm fin) W.l 0 J (fun p m=>by rw [o];exact C p m)),?_⟩;have:∃b∈rawS W fin,b.a=a∧b.back=false:=by
  unfold rawS;cases hL:W.l with
  | nil =>
    have P:=D hL;rw [row_fr v] at P;have H:yHx W (yDm fin) W.tt=true:=(by unfold yHx;rw [B,o,zQ P,Bool.or_true]);rw [stopsF];refine⟨⟨W.tt,false,yDe W 0 false⟩,?_,by show W.tt=a;omega,rfl⟩;unfold yA7;rw [Zg H];exact JF _ (zO.2 rfl)
  | cons p t =>
    have m:=L p (by rw [hL];exact zR ..);have a0:p.a=a:=by
     have h0:=y;rw [hL,Zd] at h0;cases r:inPs s a (a+len) with
     | nil=>rw [r] at h0;cases h0
     | cons q u =>
       rw [r,Zd] at h0;have e1:p.a=q.1:=Zb Prod.fst (List.cons.inj h0).1;rw [r] at E;rw [yL s a (by have:=n.1;omega)] at E;have e2:=Zb Prod.fst (List.cons.inj E).1;dsimp only at e2;omega
    have H:yHx W (yDm fin) p.a=true:=(by unfold yHx;rw [o,zQ m.2.1,Bool.true_or,Bool.true_or]);rw [stopsF];refine⟨⟨p.a,false,yDe W 0 false⟩,JF _ ?_,a0,rfl⟩;unfold yA7;rw [Zg H];exact JF _ (zO.2 rfl)
 obtain⟨b,F,A⟩:=this;exact⟨b,(yCy _ b).2 F,A⟩
theorem bord_sub {T:ByteArray} {a e b c i k:Nat} (d:yQ T a c) (j:yQ T e i) (h:a≤e) (l:yQ (T.extract a e) b k):∃m,yQ T (a+b) m:=by
 obtain⟨n,o,_⟩:=yD6 d j h;obtain⟨p,pre,f,q⟩:=l;have r:=(yBj (T.extract a e) pre 0 b (zd _) p f).1;obtain⟨s,g,_⟩:=yGy T a c d (pre.map (·.2)) ((piecesF (T.extract a e) (T.extract a e).size b).map (·.2)++(piecesF T T.size e).map (·.2)) (by
  rw [n,zW,o,f,zW,zZ])
 rw [show a+szs (pre.map (·.2))=a+b by omega] at g;exact⟨_,g⟩
theorem yB3 (T:ByteArray) (c d:Int) (f g i:Bool) (x:OneR) (h:yBl T x) :
 (∀b∈stK c d f g i x,yW x≤b.a∧(b.a:Int)≤yE0 x∧(∃k,yQ T b.a k)∧(b.back=true→yW x<b.a)∧((b.a:Int)=yE0 x→cutR x=true→b.back=true)) ∧
   (stK c d f g i x).Pairwise yMi∧(∃b∈stK c d f g i x,(b.a:Int)=yW x∧b.back=false):=by
 obtain⟨⟨⟨w,j⟩,⟨y,l⟩,n⟩,a,len,z,A,B,C,D,E,F⟩:=h;have j:yQ T x.at' w:=j;have l:yQ T (x.at'+x.line.size) y:=l;have n:x.line=T.extract x.at' (x.at'+x.line.size):=n;obtain⟨G,H,I⟩:=rawS_facts x.line c d f g i x.r.wide x.r.fin a len z A D E;unfold stK;rw [B,C];have t:yW x=((x.at'+a:Nat):Int):=by unfold yW;omega
 have J:yE0 x=((x.at'+(a+len):Nat):Int):=by unfold yE0;omega
 refine⟨fun b K=>?_,?_,?_⟩
 ·obtain⟨s,o,rfl⟩:=ZG.1 K;obtain⟨S,U,⟨k,u⟩,L,M⟩:=G s o;rw [n] at u;obtain⟨m,N⟩:=bord_sub j l (by omega) u;rw [t,J];refine⟨by show ((x.at'+a:Nat):Int)≤((s.a+x.at':Nat):Int);omega,by show ((s.a+x.at':Nat):Int)≤((x.at'+(a+len):Nat):Int);omega,⟨m,by show yQ T (s.a+x.at') m;rw [Nat.add_comm];exact N⟩,fun O=>?_,fun e v=>?_⟩
  ·have:=L O;show ((x.at'+a:Nat):Int)<((s.a+x.at':Nat):Int);omega
  ·have e:((s.a+x.at':Nat):Int)=((x.at'+(a+len):Nat):Int):=e;exact M (by omega) v (F v)
 ·refine List.pairwise_map.2 (H.imp (fun {P Q} R=>?_));exact fun ⟨p,q⟩=>R ⟨by have p:P.a+x.at'=Q.a+x.at':=p;omega,q⟩
 ·obtain⟨s,o,p,q⟩:=I;refine⟨_,ZG.2 ⟨s,o,rfl⟩,?_,q⟩;rw [t];show ((s.a+x.at':Nat):Int)=_;omega
theorem getD_some {α:Type} [Inhabited α] {L:List α} {k:Nat} {x:α} (h:L[k]? = some x):L.getD k default=x:=by rw [zI,h];rfl
def yK9 (tab want:Int) (wideA join raw:Bool) (x:OneR) (w:Int):St :=
 {yHo (layI x.line tab want wideA join raw x.r.a x.r.len x.r.wide) x.r.fin w with a:=(yHo (layI x.line tab want wideA join raw x.r.a x.r.len x.r.wide) x.r.fin w).a+x.at' }
def yLy (tab want:Int) (wideA join raw:Bool) (x:OneR) (s:St):Int:=yEk (layI x.line tab want wideA join raw x.r.a x.r.len x.r.wide) ((s.a:Int)-x.at') s.back
section
variable (tab want:Int) (wideA join raw:Bool)
theorem yNd {x:OneR} {b:St} (h:b∈stK tab want wideA join raw x):∃s∈stopsI (layI x.line tab want wideA join raw x.r.a x.r.len x.r.wide) x.r.fin,b={ s with a:=s.a+x.at' }:=by
 unfold stK at h;obtain⟨s,c,e⟩:=ZG.1 h;exact⟨s,c,e.symm⟩
theorem yFs {x:OneR} {b:St} (h:b∈stK tab want wideA join raw x):yLy tab want wideA join raw x b=b.x∧0≤b.x:=by
 obtain⟨s,c,rfl⟩:=yNd tab want wideA join raw h;obtain⟨f,d,_⟩:=yCe x.line tab want wideA join raw x.r.a x.r.len x.r.wide x.r.fin _ rfl;have:=d s c;unfold yLy;have e:(((s.a+x.at':Nat):Int))-x.at'=s.a:=by omega
 show yEk _ (((s.a+x.at':Nat):Int)-x.at') s.back=s.x∧0≤s.x;rw [e];exact⟨this.1,this.2.1⟩
theorem yE4 (x:OneR) (w:Int):yK9 tab want wideA join raw x w∈stK tab want wideA join raw x:=by
 obtain⟨c,_,_,_,b,_⟩:=yCe x.line tab want wideA join raw x.r.a x.r.len x.r.wide x.r.fin _ rfl;unfold yK9 stK;exact ZG.2 ⟨_,(b w).1,rfl⟩
end
section
variable {T:ByteArray} {L:List OneR} (hA:Adj yIa L) (hR:∀x∈L,yBl T x) (tab want:Int) (wideA join raw:Bool)
include hA hR
end
end
section
open Go.RowKit Go.Proofs Go.Shelf
attribute [local go_sem] qV
def stE:Enc St:=⟨fun c=>[c.a,c.back,.int .i64 (-1),c.x],4,fun _=>rfl⟩
theorem Tryz.info_stop:(Tryz.prog.info? 91).map (fun i=>(i.zero,i.size,i.bytes))=some (some (.agg #[.int .i64 0,false,.int .i64 0,.int .i64 0]),4,32):=by kernel_rfl
structure AdS (w:World) (S0 b:Nat) (cut:Bool) (M:List St) (W:World):Prop where
 bw:W.heap[S0]? = some (.cells #[.pointer (some ⟨b,0,none⟩)] 87 (0,0))
 bc:W.heap[S0+2]? = some (.cells #[cut] 4 (0,0))
 row:∃a c,W.heap[S0+1]? = some (.cells #[.slice a M.length c] 86 (0,0))∧yN stE 91 W (S0+3) (.slice a M.length c) M
 bel:Below S0 w W
section
variable {w W W':World} {S0 b:Nat} {cut:Bool} {M:List St}
theorem AdS.below (h:AdS w S0 b cut M W) (d:Below W W W'):AdS w S0 b cut M W':=by
 have h0:=(zH.1 h.bw).1;have e:=(zH.1 h.bc).1;obtain⟨a,c,f,g⟩:=h.row;exact⟨(d.block _ h0).trans h.bw,(d.block _ e).trans h.bc,⟨a,c,(d.block _ (by omega)).trans f,g.keep d⟩,h.bel.trans (d.mono (by omega))⟩
theorem AdS.drew (h:AdS w S0 b cut M W):AdS w S0 b cut M W.drew:=⟨h.bw,h.bc,h.row,h.bel.drew⟩
theorem AdS.drewN (h:AdS w S0 b cut M W) (n:Nat):AdS w S0 b cut M (W.drewN n):=⟨h.bw,h.bc,h.row,yI h.bel n⟩
end
theorem AdS.app {w W:World} {S0 b:Nat} {cut:Bool} {M:List St} (h:AdS w S0 b cut M W) {a:Option Addr} {c:Nat} (x:W.heap[S0+1]? = some (.cells #[.slice a M.length c] 86 (0,0))) (y:yN stE 91 W (S0+3) (.slice a M.length c) M)
 (f:St) {o:Obj} {r:Value} {d:World} (j:(W.alloc o).grownBy d (Value.slice a M.length c).ownBlock) (s:d.ownsRow (S0+3) 91 4 r (M.length+1) (M.flatMap stE.enc++stE.enc f)) :
 d.heap[S0+1]? = some (.cells #[.slice a M.length c] 86 (0,0))∧AdS w S0 b cut (M++[f]) (d.setCell ⟨S0+1,0,none⟩ r):=by
 have t:=ZW y;have h0:=(zH.1 h.bw).1;have z:=(zH.1 h.bc).1;have D:(W.alloc o).heap.size=W.heap.size+1:=by rw [zM]
 have A:Below W W (W.alloc o):=(Zc _ _).alloc (zT _) o;have m:∀k,k<S0+3→k<W.heap.size→d.heap[k]? = W.heap[k]?:=fun k u B =>
  (j.block k (by omega) (fun e=>by have:=(t k e.symm).1;omega)).trans (A.block k B)
 obtain⟨n,q,C,_,_⟩:=yP s;subst C;have v:=(m (S0+1) (by omega) (by omega)).trans x;refine⟨v,⟨yA ((m S0 (by omega) h0).trans h.bw) (by omega),yA ((m (S0+2) (by omega) z).trans h.bc) (by omega),⟨n,q,?_,?_⟩,?_⟩⟩
 ·have l:=yM (i:=0) v (.slice n (M.length+1) q);rw [zJ];exact l
 ·have l:yN stE 91 d (S0+3) (.slice n (M++[f]).length q) (M++[f]):=by
   unfold yN;rw [zJ,zU,zV];exact s
  exact l.other (fun g j=>by have:=(ZW l g j).1;omega)
 ·exact ((h.bel.alloc (by omega) o).grown j (by omega) (fun k u=>by have:=(t k u).1;omega)).setCell (p:=⟨S0+1,0,none⟩) (show S0≤S0+1 by omega) _
theorem add_any (w:World) (S0 b:Nat) (R:LaidR) (cut:Bool) (M:List St) (i p:Nat) (V:w.heap.size=S0) (X:yDs w b R) (hi:i≤R.l.length) (c2:R.base<256) (c3:∀p∈R.l,p.level<256) (hn:R.l.length≤2097152) (hM:M.length≤8388608) (W:World) (h:AdS w S0 b cut M W) :
 Calls Tryz.prog 89 #[i,p,.pointer (some ⟨S0,0,none⟩),.pointer (some ⟨S0+2,0,none⟩),.pointer (some ⟨S0+1,0,none⟩)] W fun e w'=>e=.returned (.tuple #[])∧AdS w S0 b cut (M++yA7 R cut i p) w':=by
 obtain⟨i5,a9,b0,b1,b2⟩:=info_parts (Tryz.info_stop);obtain⟨x,Y⟩:=nm (yDe R i false);obtain⟨y,Z⟩:=nm (yDe R i true);have c4:Hid (∀W,AdS w S0 b cut M W→yDs W b R):=lh fun W h=>X.below (V▸h.bel);have HE:Hid (∀W k,AdS w S0 b cut M W→Calls Tryz.prog 52 #[.pointer (some ⟨b,0,none⟩),i,.bool k] W fun e w'=>e=.returned (.int .i64 (yDe R i k))∧AdS w S0 b cut M w') :=
  lh fun W k h=>(rEdge_any b R i k W (X.below (V▸h.bel)) hi c2 c3 hn).mono fun e w' ⟨n,d⟩=>⟨n,h.below d⟩
 have b3:Hid (∀W,AdS w S0 b cut M W→Calls Tryz.prog 52 #[.pointer (some ⟨b,0,none⟩),i,false] W fun e w'=>e=.returned (.int .i64 x)∧AdS w S0 b cut M w'):=lh fun W h=>Y▸HE.out W false h;have b4:Hid (∀W,AdS w S0 b cut M W→Calls Tryz.prog 52 #[.pointer (some ⟨b,0,none⟩),i,true] W fun e w'=>e=.returned (.int .i64 y)∧AdS w S0 b cut M w'):=lh fun W h=>Z▸HE.out W true h;have b5:yA7 R cut i p=(if yHx R cut p=true then [⟨p,false,x⟩] else [])++(if (decide (R.fr<p)&&(decide (x≠y)||(cut&&decide (p=R.tt))))=true then [⟨p,true,y⟩] else []):=by
  unfold yA7 hasB;rw [Y,Z]
 have b6:=lh b5;have Q:Hid (∀W,AdS w S0 b cut M W→W.cell? ⟨S0,0,none⟩=some (.pointer (some ⟨b,0,none⟩))∧AdS w S0 b cut M W):=lh fun W h=>⟨by simp [World.cell?,h.bw],h⟩;clear b5 HE Y Z;have HW:=lh h;obtain⟨E,hW⟩:=Q.out W h;clear h;go_enter Tryz.func89,Tryz.ntmps89;go_upto_region 0 with fail;obtain⟨S,a0,b7⟩:∃S:World→Prop,(∀W:World,W.cell? ⟨S0,0,none⟩=some (.pointer (some ⟨b,0,none⟩))→S W)∧(∀W:World,S W→W.cell? ⟨S0,0,none⟩=some (.pointer (some ⟨b,0,none⟩))):=⟨fun W=>W.cell? ⟨S0,0,none⟩=some (.pointer (some ⟨b,0,none⟩)),fun _ h=>h,fun _ h=>h⟩;have T:=lh a0;have c5:Nonempty (WIn S):=⟨⟨_,a0 _ E⟩⟩;have c6:∀q:WIn S,q.w.cell? ⟨S0,0,none⟩=some (.pointer (some ⟨b,0,none⟩)):=fun q=>b7 _ q.h;clear a0 b7;refine yBo S [([0,1,3,4],2),([],5)] [6,7] (by kernel_rfl) (by kernel_rfl) (T.out _ E) ?_;simp only [yIb,yS,zD,zE,zC,zB,zA];show wpQuiet _ _ _ _ [_,_,_,_] _
 repeat (go_big_quiet_step (fail))
 refine Zt ?_;intro K F;have G:=lh F;have b8:=lh (b3.out W.drew hW.drew);clear F;show wpList _ _ _ [_] _ _;go_wp2_with (go_at_call 52;refine b8.out.mono ?_;rintro e w5 ⟨rfl,a1⟩);have k5:=(Q.out w5 a1).1;have b9:=lh (b4.out w5 a1);refine G.out _ _ (T.out _ k5) ?_;clear G b8 a1;show wpQuiet _ _ _ _ [] _;refine Zt ?_;intro K F;have G:=lh F;clear F;show wpList _ _ _ [_] _ _;go_wp2_with (go_at_call 52;refine b9.out.mono ?_;rintro e U ⟨rfl,a2⟩);have k6:=(Q.out U a2).1;have o:=lh a2;refine G.out _ _ (T.out _ k6) ?_;clear G b9 a2 T;show wpQuiet _ _ _ _ [_,_] _
 repeat (go_big_quiet_step (fail))
 refine Zt ?_;refine NoPanic.normal ?_;clear c6 c5 k5 k6 E hW HW b3 b4 Q;obtain⟨u,s⟩:=nm (yHx R cut p);obtain⟨v,hv⟩:=nm ((decide (R.fr<p)&&(decide (x≠y)||(cut&&decide (p=R.tt)))));rw [s,hv] at b6;go_upto_region 1 with fail;go_cut [35] (fun c H=>c=.bool u∧AdS w S0 b cut M H)
 case first =>
  obtain⟨la,c7,va,vc,t,_,_⟩:=c4.out U o.out;have d2:=t.cells.2.2.1;have d3:=t.cells.2.2.2.1;have E:U.cell? ⟨S0,0,none⟩=some (.pointer (some ⟨b,0,none⟩)):=ce o.out.bw;have k2:U.cell? ⟨S0+2,0,none⟩=some (.bool cut):=ce o.out.bc;clear t;by_cases n:p<R.tt
  ·have a3:decide ((p:Int)<(R.tt:Int))=true:=zQ (by omega);have z:u=true:=(by rw [←s];unfold yHx;rw [zQ n];rfl);subst z;go_quiet (fail);go_wp2;go_meet;exact⟨rfl,o.out.drewN _⟩
  ·have a3:decide ((p:Int)<(R.tt:Int))=false:=zP (by omega);cases cut with
   | false =>
     have z:u=true:=(by rw [←s];unfold yHx;simp);subst z;go_quiet (fail);go_wp2;go_meet;exact⟨rfl,o.out.drewN _⟩
   | true =>
     by_cases C:R.fr=R.tt
     ·have a4:((R.fr:Int)==(R.tt:Int))=true:=(by rw [ZD];omega);have z:u=true:=(by rw [←s];unfold yHx;rw [zQ C];simp);subst z;go_quiet (fail);go_wp2;go_meet;exact⟨rfl,o.out.drewN _⟩
     ·have a4:((R.fr:Int)==(R.tt:Int))=false:=(by rw [zN];omega);have z:u=false:=(by rw [←s];unfold yHx;rw [zP C,zP n];rfl);subst z;go_quiet (fail);go_wp2;go_meet;exact⟨rfl,o.out.drewN _⟩
 case rest =>
  obtain⟨rfl,I⟩:=hcut;have f:=lh I;have HU:=lh s;have D:=lh hv;clear I o s hv;obtain⟨r,J⟩:∃r,M++(if u=true then [(⟨p,false,x⟩:St)] else [])=r:=⟨_,rfl⟩;have d1:r.length≤8388609:=(by rw [←J,zJ];split <;> simp <;> omega);go_upto_if 35 with fail;go_cut [35] (fun _ H=>AdS w S0 b cut r H)
  case first =>
   cases u with
   | true =>
     obtain⟨a,c,g,A⟩:=f.out.row;have k1:=qc1 g;have c8:S0+1<wc.heap.size:=(zH.1 g).1;have R1:=lh g;have R2:=lh A;have L:=qP A (.cells #[p,false,.int .i64 (-1),x] 91);have a5:=lh L;have c9:S0+3≤wc.heap.size:=(by have:=(zH.1 f.out.bc).1;omega);clear g A L;go_wp2_with (at_builtin;refine Zy _ rfl _ _ 86 rfl (S0+3) 91 i5 _ 4 32 Tryz.underlying86 a9 b0 b1 b2 rfl (by decide) _ M.length _ rfl a5.out ⟨wc,0,none⟩ 1 1 [p,false,.int .i64 (-1),x] rfl rfl (newS _ _ _) (by simp [Value.oneCell']) (by unfold maxLen;omega) (by omega) (by simp;omega) ?_;intro v' N O a6 _ _;obtain⟨a',c',a7,_,_⟩:=yP O;subst a7;obtain⟨B,P⟩:=f.out.app R1.out R2.out ⟨p,false,x⟩ a6 O;have a8:=lh P;have q0:N.cell? ⟨S0+1,0,none⟩=some (.slice a M.length c):=(ce B);have qf:N.frozen? ⟨S0+1,0,none⟩=false:=(fz B);clear P B);go_meet;rw [←J,Zg trivial];exact a8.out
   | false =>
     go_wp2;go_meet;rw [←J,Zf (by decide),zq];exact f.out
  case rest =>
   have j:=lh hcut;clear hcut f;have c0:Hid (M++yA7 R cut i p=r++(if v=true then [(⟨p,true,y⟩:St)] else [])):=lh (by rw [b6.out,←J,zZ]);clear J;have c1:yDs wc b R:=X.below (V▸j.out.bel);go_upto_region 3 with fail;go_cut [64] (fun c H=>c=.bool v∧AdS w S0 b cut r H)
   case first =>
    obtain⟨la,c7,va,vc,t,_,_⟩:=c1;have d2:=t.cells.2.2.1;have d3:=t.cells.2.2.2.1;have E:wc.cell? ⟨S0,0,none⟩=some (.pointer (some ⟨b,0,none⟩)):=ce j.out.bw;have k2:wc.cell? ⟨S0+2,0,none⟩=some (.bool cut):=ce j.out.bc;clear t;by_cases n:R.fr<p
    ·have a3:decide ((R.fr:Int)<(p:Int))=true:=zQ (by omega);by_cases d:x=y
     ·have d0:(x != y)=false:=(by simp [d]);have d4:(y != y)=false:=(by simp);cases cut with
      | false =>
        have m:v=false:=(by rw [←D.out];simp [d]);subst m;subst d;go_wp2;go_meet;exact⟨rfl,j.out⟩
      | true =>
        by_cases C:p=R.tt
        ·have a4:((p:Int)==(R.tt:Int))=true:=(by rw [ZD];omega);have m:v=true:=(by rw [←D.out];simp [n,C];omega);clear C;subst m;subst d;go_wp2;go_meet;exact⟨rfl,j.out⟩
        ·have a4:((p:Int)==(R.tt:Int))=false:=(by rw [zN];omega);have m:v=false:=(by rw [←D.out];simp [d,C]);subst m;subst d;go_wp2;go_meet;exact⟨rfl,j.out⟩
     ·have d0:(x != y)=true:=(by simp [d]);have m:v=true:=(by rw [←D.out];simp [n,d]);subst m;go_wp2;go_meet;exact⟨rfl,j.out⟩
    ·have a3:decide ((R.fr:Int)<(p:Int))=false:=zP (by omega);have m:v=false:=(by rw [←D.out];simp [n]);subst m;go_wp2;go_meet;exact⟨rfl,j.out⟩
   case rest =>
    obtain⟨rfl,I⟩:=hcut;have f:=lh I;clear I c1 j D HU;cases v with
    | true =>
      obtain⟨a,c,g,A⟩:=f.out.row;have k1:=qc1 g;have c8:S0+1<wc.heap.size:=(zH.1 g).1;have R1:=lh g;have R2:=lh A;have L:=qP A (.cells #[p,true,.int .i64 (-1),y] 91);have a5:=lh L;have c9:S0+3≤wc.heap.size:=(by have:=(zH.1 f.out.bc).1;omega);clear g A L;go_wp2_with (at_builtin;refine Zy _ rfl _ _ 86 rfl (S0+3) 91 i5 _ 4 32 Tryz.underlying86 a9 b0 b1 b2 rfl (by decide) _ r.length _ rfl a5.out ⟨wc,0,none⟩ 1 1 [p,true,.int .i64 (-1),y] rfl rfl (newS _ _ _) (by simp [Value.oneCell']) (by unfold maxLen;omega) (by omega) (by simp;omega) ?_;intro v' N O a6 _ _;obtain⟨a',c',a7,_,_⟩:=yP O;subst a7;obtain⟨B,P⟩:=f.out.app R1.out R2.out ⟨p,true,y⟩ a6 O;have a8:=lh P;have q0:N.cell? ⟨S0+1,0,none⟩=some (.slice a r.length c):=(ce B);have qf:N.frozen? ⟨S0+1,0,none⟩=false:=(fz B);clear P B)
      go_end0
      exact⟨rfl,by rw [c0.out,Zg trivial];exact a8.out⟩
    | false =>
      go_wp2
      go_end0
      exact⟨rfl,by rw [c0.out,Zf (by decide),zq];exact f.out⟩
def yAe (l:List St):Prop:=∀s∈l,-1099511627776≤s.x∧s.x≤1099511627776
theorem yLl (s t:St) (c : -1099511627776≤s.x∧s.x≤1099511627776) (d : -1099511627776≤t.x∧t.x≤1099511627776) (w:World) :
 Calls Tryz.prog 91 #[.agg #[s.a,s.back,.int .i64 (-1),s.x],.agg #[t.a,t.back,.int .i64 (-1),t.x]] w fun e w'=>e=.returned (.int .i64 (s.x-t.x))∧Below w w w':=by
 have hw:IntKind.i64.wrap (s.x-t.x)=s.x-t.x:=by rw [ZH];omega
 have b:Below w w ((w.alloc (.cells #[s.a,s.back,.int .i64 (-1),s.x] 91)).alloc (.cells #[t.a,t.back,.int .i64 (-1),t.x] 91)):=((Zc _ _).alloc (zT _) _).alloc (by simp) _;go_enter Tryz.func91,Tryz.ntmps91;go_wp2;go_ret;exact⟨rfl,b⟩
theorem yAn {w:World} {base n G c:Nat} {l:List St} (d:l.length=n) (e:yN stE 91 w base (.slice (some ⟨G,0,none⟩) n c) l) (i:Nat) (s:St) (f:l[i]? = some s) :
 base≤G∧G<w.heap.size∧w.cell? ⟨G,i*4,none⟩=some (.int .i64 s.a)∧w.cell? ⟨G,i*4+1,none⟩=some (.bool s.back)∧w.cell? ⟨G,i*4+2,none⟩=some (.int .i64 (-1))∧w.cell? ⟨G,i*4+3,none⟩=some (.int .i64 s.x)∧∀j,w.frozen? ⟨G,j,none⟩=false:=by
 subst d;obtain⟨o,g,h,k,b,m⟩:=e.at i s f;cases g;exact⟨h,k,b 0 _ rfl,b 1 _ rfl,b 2 _ rfl,b 3 _ rfl,m⟩
theorem st_set {w:World} {base n G c:Nat} {l:List St} (h:l.length=n) (j:yN stE 91 w base (.slice (some ⟨G,0,none⟩) n c) l) (i:Nat) (s t:St) (d:l[i]? = some s) :
 yN stE 91 ((((w.setCell ⟨G,i*4,none⟩ (.int .i64 t.a)).setCell ⟨G,i*4+1,none⟩ (.bool t.back)).setCell ⟨G,i*4+2,none⟩ (.int .i64 (-1))).setCell ⟨G,i*4+3,none⟩ (.int .i64 t.x)) base (.slice (some ⟨G,0,none⟩) n c) (l.set i t):=by
 subst h;have k:=(zG.1 d).1;have b:∀z:St,(l.set i z)[i]? = some z:=fun z=>by rw [ZP];simp [k]
 have m:=yN.set (cap:=c) j i s ⟨t.a,s.back,s.x⟩ d 0 (.int .i64 t.a) (by decide) rfl;have e:=yN.set (cap:=c) m i _ ⟨t.a,t.back,s.x⟩ (b _) 1 (.bool t.back) (by decide) rfl;rw [JJ] at e;have f:=yN.set (cap:=c) e i _ ⟨t.a,t.back,s.x⟩ (b _) 2 (.int .i64 (-1)) (by decide) rfl;rw [JJ] at f;have g:=yN.set (cap:=c) f i _ t (b _) 3 (.int .i64 t.x) (by decide) rfl;rw [JJ,ZQ] at g;exact g
structure InS (w:World) (base G c n:Nat) (M:List St) (W:World):Prop where
 own:yN stE 91 W base (.slice (some ⟨G,0,none⟩) n c) M
 bel:Below base w W
 sz:base≤W.heap.size
theorem InS.below {w W b:World} {base G c n:Nat} {M:List St} (h:InS w base G c n M W) (a:Below W W b):InS w base G c n M b:=⟨h.own.keep a,h.bel.trans (a.mono h.sz),zY h.sz a.size⟩
theorem InS.drew {w W:World} {base G c n:Nat} {M:List St} (h:InS w base G c n M W):InS w base G c n M W.drew:=⟨h.own,h.bel.drew,h.sz⟩
theorem InS.drewN {w W:World} {base G c n:Nat} {M:List St} (h:InS w base G c n M W) (k:Nat):InS w base G c n M (W.drewN k):=⟨h.own,yI h.bel k,h.sz⟩
theorem InS.swap {w W:World} {base G c n:Nat} {M:List St} (h:InS w base G c n M W) (d:M.length=n) (j:Nat) (s t:St) (f:M[j+1]? = some s) (g:M[j]? = some t) :
 InS w base G c n (yJw M j) ((((((((W.setCell ⟨G,(j+1)*4,none⟩ (.int .i64 t.a)).setCell ⟨G,(j+1)*4+1,none⟩ (.bool t.back)).setCell ⟨G,(j+1)*4+2,none⟩ (.int .i64 (-1))).setCell ⟨G,(j+1)*4+3,none⟩ (.int .i64 t.x)).setCell ⟨G,j*4,none⟩ (.int .i64 s.a)).setCell ⟨G,j*4+1,none⟩ (.bool s.back)).setCell ⟨G,j*4+2,none⟩ (.int .i64 (-1))).setCell ⟨G,j*4+3,none⟩ (.int .i64 s.x)):=by
 have i:=st_set d h.own (j+1) s t f;have l:(M.set (j+1) t)[j]? = some t:=by rw [ZP,Zf (by omega)];exact g
 have m:=st_set (by rw [ZQ];exact d) i j t s l;have o:=(ZW h.own G rfl).1;have e:yJw M j=(M.set (j+1) t).set j s:=by
  unfold yJw;rw [zI,zI,f,g];rfl
 rw [e];refine⟨m,?_,?_⟩
 ·have b:∀{X:World} (k:Nat) (v:Value),Below base w X→Below base w (X.setCell ⟨G,k,none⟩ v):=fun k v q=>q.setCell (p:=⟨G,k,none⟩) o v;exact b _ _ (b _ _ (b _ _ (b _ _ (b _ _ (b _ _ (b _ _ (b _ _ h.bel)))))))
 ·have:=h.sz;simp;omega
theorem set_two (a b c:List St) (x y:St):((a++x::(b++y::c)).set a.length y).set (a.length+1+b.length) x=a++y::(b++x::c):=by
 rw [yOq];have e:a++y::(b++y::c)=(a++y::b)++y::c:=by simp
 have d:a.length+1+b.length=(a++y::b).length:=by simp;omega
 rw [e,d,yOq];simp
theorem get_fst (a b c:List St) (x y:St):(a++x::(b++y::c))[a.length]? = some x:=yFd _ _ _
theorem get_snd (a b c:List St) (x y:St):(a++x::(b++y::c))[a.length+1+b.length]? = some y:=by
 have e:a++x::(b++y::c)=(a++x::b)++y::c:=by simp
 have d:a.length+1+b.length=(a++x::b).length:=by simp;omega
 rw [e,d];exact yFd _ _ _
theorem InS.sw {w W:World} {base G c n:Nat} {M:List St} (h:InS w base G c n M W) (d:M.length=n) (i k:Nat) (e:i≠k) (s t:St) (f:M[i]? = some s) (g:M[k]? = some t) :
 InS w base G c n ((M.set i t).set k s) ((((((((W.setCell ⟨G,i*4,none⟩ (.int .i64 t.a)).setCell ⟨G,i*4+1,none⟩ (.bool t.back)).setCell ⟨G,i*4+2,none⟩ (.int .i64 (-1))).setCell ⟨G,i*4+3,none⟩ (.int .i64 t.x)).setCell ⟨G,k*4,none⟩ (.int .i64 s.a)).setCell ⟨G,k*4+1,none⟩ (.bool s.back)).setCell ⟨G,k*4+2,none⟩ (.int .i64 (-1))).setCell ⟨G,k*4+3,none⟩ (.int .i64 s.x)):=by
 have j:=st_set d h.own i s t f;have l:(M.set i t)[k]? = some t:=by rw [ZP,Zf e];exact g
 have m:=st_set (by rw [ZQ];exact d) j k t s l;have o:=(ZW h.own G rfl).1;refine⟨m,?_,?_⟩
 ·have b:∀{X:World} (k:Nat) (v:Value),Below base w X→Below base w (X.setCell ⟨G,k,none⟩ v):=fun k v q=>q.setCell (p:=⟨G,k,none⟩) o v;exact b _ _ (b _ _ (b _ _ (b _ _ (b _ _ (b _ _ (b _ _ (b _ _ h.bel)))))))
 ·have:=h.sz;simp;omega
theorem swr_any (G c N base:Nat) (w:World) (P X Q Y R:List St) (a b n:Nat) (ha:P.length=a) (hn:X.length=n) (hb:a+n+Q.length=b) (a4:Y.length=n) (I:(P++X++Q++Y++R).length=N) (hN:N≤8388608) (fv:Value) (W:World) (g:InS w base G c N (P++X++Q++Y++R) W) :
 Calls Tryz.prog 228 #[.slice (some ⟨G,0,none⟩) N c,a,b,n,fv] W fun e w'=>e=.returned (.tuple #[])∧InS w base G c N (P++Y++Q++X++R) w':=by
 have HS:=lh g;have b4:a+n+Q.length+n+R.length=N:=by rw [←I];simp;omega
 clear g I;go_enter Tryz.func228,Tryz.ntmps228;go_wp2;go_loopw [10] (fun u10 wx=>∃(i:Nat) (d l f m:List St),u10=.int .i64 i∧X=d++l∧Y=f++m∧d.length=i∧f.length=i∧InS w base G c N (P++f++l++Q++d++m++R) wx) (fun u10 _=>n-(intOf u10).toNat)
 case atStart=>exact⟨0,[],X,[],Y,rfl,rfl,rfl,rfl,rfl,by simpa using HS.out⟩
 case round =>
  obtain⟨i,d,l,f,m,rfl,r,s,h1,h2,g⟩:=hrel;have J:l.length=n-i:=(by rw [r,zJ] at hn;omega);have K:m.length=n-i:=(by rw [s,zJ] at a4;omega);by_cases b5:i<n
  ·obtain⟨x,j,rfl⟩:∃x t,l=x::t:=by
    cases l with
    | nil=>simp at J;omega
    | cons x t=>exact⟨x,t,rfl⟩
   obtain⟨y,o,rfl⟩:∃x t,m=x::t:=by
    cases m with
    | nil=>simp at K;omega
    | cons x t=>exact⟨x,t,rfl⟩
   rw [zb] at J K;have L:P++f++x::j++Q++d++y::o++R=(P++f)++x::((j++Q++d)++y::(o++R)):=(by simp);have u:(P++f).length=a+i:=(by rw [zJ];omega);have v:(P++f).length+1+(j++Q++d).length=b+i:=(by simp only [zJ];omega);rw [L] at g;have z:((P++f)++x::((j++Q++d)++y::(o++R))).length=N:=(by simp only [zJ,zb];omega);have A:=get_fst (P++f) (j++Q++d) (o++R) x y;have B:=get_snd (P++f) (j++Q++d) (o++R) x y;have E:=g.sw z (a+i) (b+i) (by omega) x y (by rw [←u];exact A) (by rw [←v];exact B);have F:=set_two (P++f) (j++Q++d) (o++R) x y;rw [u,show a+i+1+(j++Q++d).length=b+i by rw [←v,u]] at F;rw [F] at E;rw [u] at A;rw [v] at B;obtain⟨_,_,M,O,S,T,k⟩:=yAn z g.own (a+i) x A;obtain⟨_,_,U,V,Z,b3,_⟩:=yAn z g.own (b+i) y B;have e0:=k ((a+i)*4);have e1:=k ((a+i)*4+1);have C:=k ((a+i)*4+2);have D:=k ((a+i)*4+3);have f0:=k ((b+i)*4);have f1:=k ((b+i)*4+1);have f2:=k ((b+i)*4+2);have f3:=k ((b+i)*4+3);have H:=lh E;have a5:IntKind.i64.wrap ((a:Int)+(i:Int))=((a+i:Nat):Int):=(by rw [ZH];omega);have a6:IntKind.i64.wrap ((b:Int)+(i:Int))=((b+i:Nat):Int):=(by rw [ZH];omega);have a7:((a+i:Nat):Int)<(N:Int):=(by omega);have a8:((b+i:Nat):Int)<(N:Int):=(by omega);have b6:(i:Int)<(n:Int):=(by omega);obtain⟨p,hp⟩:=nm (a+i);obtain⟨q,hq⟩:=nm (b+i);have b7:p≠q:=(by omega);rw [hp] at M O S T e0 e1 C D a5 a7 H;rw [hq] at U V Z b3 f0 f1 f2 f3 a6 a8 H;have HX:=lh r;have HY:=lh s;clear g E F A B k z L u v r s hp hq;go_upto_region 3 with fail
   go_region
   clear M O S T U V Z b3 e0 e1 C D f0 f1 f2 f3;go_wp2;go_roundw
   case rel=>exact⟨i+1,d++[x],j,f++[y],o,by go_num,by rw [HX.out];simp,by rw [HY.out];simp,by simp [h1],by simp [h2],by have h:=H.out.drew;simp only [zZ,zo,zp,ZN] at h ⊢;exact h⟩
   case measure=>simp [intOf];omega
  ·have hi:i=n:=by
    have:=Zb List.length r;rw [zJ] at this;omega
   have C:l=[]:=ZE.1 (by omega);have D:m=[]:=ZE.1 (by omega);subst C;subst D;rw [zq] at r s;subst r;subst s;rw [zq,zq] at g;have a9:=lh g;clear g;go_wp2
   go_end0
   exact⟨rfl,a9.out⟩
theorem rot_any (G c N base:Nat) (w:World) (P X Y R:List St) (a m b:Nat) (ha:P.length=a) (hm:a+X.length=m) (hb:m+Y.length=b) (S:X≠[]) (U:Y≠[]) (A:(P++X++Y++R).length=N) (B:N≤8388608) (x:Value) (W:World) (r:InS w base G c N (P++X++Y++R) W) :
 Calls Tryz.prog 209 #[.slice (some ⟨G,0,none⟩) N c,a,m,b,x] W fun e w'=>e=.returned (.tuple #[])∧InS w base G c N (P++Y++X++R) w':=by
 have V:=lh r;have b3:b+R.length=N:=by rw [←A];simp;omega
 have Z:0<X.length:=zj.2 S;have a0:0<Y.length:=zj.2 U;have a4:IntKind.i64.wrap ((m:Int)-(a:Int))=(X.length:Int):=by rw [ZH];omega
 have a5:IntKind.i64.wrap ((b:Int)-(m:Int))=(Y.length:Int):=by rw [ZH];omega
 have HL:=lh A;obtain⟨T,C⟩:=nm (P++Y++X++R);rw [C];have HT:=lh C;obtain⟨xl,a1⟩:∃n,X.length=n:=⟨_,rfl⟩;obtain⟨yl,a2⟩:∃n,Y.length=n:=⟨_,rfl⟩;rw [a1] at a4 Z hm;rw [a2] at a5 a0 hb;clear r A C S U;go_enter Tryz.func209,Tryz.ntmps209;go_wp2;go_loopw [10,11] (fun u10 u11 wx=>∃(i j:Nat) (d f g k:List St),u10=.int .i64 i∧u11=.int .i64 j∧f.length=i∧g.length=j∧0<i∧0<j∧d.length+i=m∧d++g++f++k=T∧(d++f++g++k).length=N∧InS w base G c N (d++f++g++k) wx) (fun u10 u11 _=>(intOf u10).toNat+(intOf u11).toNat)
 case atStart=>exact⟨xl,yl,P,X,Y,R,rfl,rfl,a1,a2,Z,a0,by omega,HT.out,HL.out,V.out⟩
 case round =>
  obtain⟨i,j,d,f,g,k,rfl,rfl,hi,hj,a6,a7,a8,a3,D,r⟩:=hrel;have E:=lh r;have F:=lh a3;have s:=lh D;have b4:d.length+i+j+k.length=N:=(by rw [←D];simp;omega);clear r a3 D V;by_cases h1:i=j
  ·subst h1;have a9:((i:Int) != (i:Int))=false:=(by simp);have b0:IntKind.i64.wrap ((m:Int)-(i:Int))=(d.length:Int):=(by rw [ZH];omega);have t:=swr_any G c N base w d f [] g k d.length m i rfl hi (by simp;omega) hj (by rw [zq];exact s.out) B x;go_wp2_with (go_at_call 228;refine (t _ (by rw [zq];exact E.out)).mono ?_;rintro e w5 ⟨rfl,p⟩)
   go_end0
   exact⟨rfl,by rw [zq,F.out] at p;exact p⟩
  ·have a9:((i:Int) != (j:Int))=true:=(by rw [bne_iff_ne];omega);have b0:IntKind.i64.wrap ((m:Int)-(i:Int))=(d.length:Int):=(by rw [ZH];omega);by_cases h2:j<i
   ·have b1:decide ((j:Int)<(i:Int))=true:=zQ (by omega);have o:f=f.take j++f.drop j:=(zw j f).symm;obtain⟨H,I⟩:∃l,f.take j=l:=⟨_,rfl⟩;obtain⟨J,K⟩:∃l,f.drop j=l:=⟨_,rfl⟩;have y:H.length=j:=(by rw [←I,za];omega);have z:J.length=i-j:=(by rw [←K,zy];omega);rw [I,K] at o;have u:=fun (W:World) (h:InS w base G c N (d++f++g++k) W)=>swr_any G c N base w d H J g k d.length m j rfl y (by omega) hj (by rw [←s.out,o];simp) B x W (by rw [o] at h;simpa using h);have t:=lh u;have b2:IntKind.i64.wrap ((i:Int)-(j:Int))=((i-j:Nat):Int):=(by rw [ZH];omega);have v:=lh o;clear u o I K;go_wp2_with (go_at_call 228;refine (t.out _ E.out).mono ?_;rintro e w5 ⟨rfl,p⟩);go_roundw
    case rel=>exact⟨i-j,j,d++g,J,H,k,by go_num,rfl,z,y,by omega,a7,by rw [zJ];omega,by rw [←F.out,v.out];simp,by rw [←s.out,v.out];simp only [zJ];omega,by simpa using p⟩
    case measure=>simp [intOf];omega
   ·have b1:decide ((j:Int)<(i:Int))=false:=zP (by omega);have o:g=g.take (j-i)++g.drop (j-i):=(zw (j-i) g).symm;obtain⟨L,M⟩:∃l,g.take (j-i)=l:=⟨_,rfl⟩;obtain⟨O,Q⟩:∃l,g.drop (j-i)=l:=⟨_,rfl⟩;have y:L.length=j-i:=(by rw [←M,za];omega);have z:O.length=i:=(by rw [←Q,zy];omega);rw [M,Q] at o;obtain⟨q,hq⟩:=nm (m+j-i);have u:=fun (W:World) (h:InS w base G c N (d++f++g++k) W)=>swr_any G c N base w d f L O k d.length q i rfl hi (by omega) z (by rw [←s.out,o];simp) B x W (by rw [o] at h;simpa using h);have t:=lh u;have b2:IntKind.i64.wrap ((j:Int)-(i:Int))=((j-i:Nat):Int):=(by rw [ZH];omega);have b5:IntKind.i64.wrap ((m:Int)+(j:Int))=(m:Int)+j:=(by rw [ZH];omega);have b6:IntKind.i64.wrap ((m:Int)+(j:Int)-(i:Int))=(q:Int):=(by rw [ZH];omega);have v:=lh o;clear u o M Q;go_wp2_with (go_at_call 228;refine (t.out _ E.out).mono ?_;rintro e w5 ⟨rfl,p⟩);go_roundw
    case rel=>exact⟨i,j-i,d,O,L,f++k,rfl,by go_num,z,y,a6,by omega,a8,by rw [←F.out,v.out];simp,by rw [←s.out,v.out];simp only [zJ];omega,by simpa using p⟩
    case measure=>simp [intOf];omega
theorem mid_ins (T e d:List St) (x:St) (h:yAc T=e++d) (j:∀z∈e,z.x≤x.x) (k:∀z∈d,x.x<z.x):yAc (T++[x])=e++x::d:=by
 have i:=yDl T;rw [h] at i;obtain⟨l,m,n⟩:=(yDk e d).1 i;rw [isrt_snoc,h,mg_app];have o:mg d [x]=x::d:=by
  have:=yOk [x] [] d (fun a f b p=>by rcases zO.1 p with rfl;exact k a f);rw [yKd d m] at this;exact this
 rw [o];have:=yGb [] (x::d) e (fun a f c g=>by
  rcases zX.1 g with rfl | g
  ·exact j a f
  ·exact n a f c g)
 rw [zp,yKd e l] at this;exact this
theorem insP_any (G c n base:Nat) (w:World) (P S R:List St) (a b:Nat) (ha:P.length=a) (v:a+S.length=b) (hl:(P++S++R).length=n) (hn:n≤8388608) (hx:yAe (P++S++R)) (W:World) (p:InS w base G c n (P++S++R) W) :
 Calls Tryz.prog 175 #[.slice (some ⟨G,0,none⟩) n c,a,b,.func (.func 91) #[] #[]] W fun e w'=>e=.returned (.tuple #[])∧InS w base G c n (P++yAc S++R) w':=by
 have a9:=lh p;have b4:Hid (∀z,z∈P∨z∈S∨z∈R → -1099511627776≤z.x∧z.x≤1099511627776):=lh fun z f=>hx z (by simp only [ZF];rcases f with h | h | h;exact .inl (.inl h);exact .inl (.inr h);exact .inr h);have e5:b+R.length=n:=by rw [←hl];simp;omega
 have e6:IntKind.i64.wrap ((a:Int)+1)=((a+1:Nat):Int):=by rw [ZH];omega
 clear p hx hl;go_enter Tryz.func175,Tryz.ntmps175;go_upto_block 0 with fail;go_wp2;go_loopw [8,9] (fun u8 _ A=>∃(i:Nat) (d r:List St),u8=.int .i64 i∧a+1≤i∧i≤b+1∧S=d++r∧(S=[]∨a+d.length=i)∧InS w base G c n (P++yAc d++r++R) A) (fun u8 _ _=>b-(intOf u8).toNat)
 case atStart =>
  refine⟨a+1,S.take 1,S.drop 1,rfl,zT _,by omega,(zw 1 S).symm,?_,?_⟩
  ·cases S with
   | nil=>exact .inl rfl
   | cons s t=>exact .inr rfl
  ·have h:=a9.out;cases S with
   | nil=>simpa [yAc] using h
   | cons s t=>simpa [yAc,yAb] using h
 case round =>
  obtain⟨i,d,r,rfl,e7,e8,l,T,p⟩:=hrel;have U:=lh p;clear p a9;by_cases e9:i<b
  ·have c2:a+d.length=i:=T.resolve_left (fun e=>by rw [e] at v;simp at v;omega);obtain⟨x,m,rfl⟩:∃x t,r=x::t:=by
    cases r with
    | nil=>rw [l,zq] at v;omega
    | cons x t=>exact⟨x,t,rfl⟩
   have c3:x∈S:=(by rw [l];simp);have b5:∀z∈d,z∈S:=fun z f=>by rw [l];exact JF _ f
   have f4:a+d.length+1+m.length=b:=(by rw [l] at v;simp at v;omega);have c4:=lh l;have f5:IntKind.i64.wrap ((i:Int)+1)=((i+1:Nat):Int):=(by rw [ZH];omega);have c5:=b4.out x (.inr (.inl c3));have c6:=lh b5;clear l T b5;go_upto_block 1 with fail;go_cut [9] (fun _ A=>InS w base G c n (P++yAc (d++[x])++m++R) A)
   case first =>
    go_wp2;go_loopw [9] (fun u9 A=>∃(j:Nat) (u g:List St),u9=.int .i64 j∧a+u.length=j∧yAc d=u++g∧(∀z∈g,x.x<z.x)∧InS w base G c n (P++u++x::(g++m++R)) A) (fun u9 _=>(intOf u9).toNat)
    case atStart=>exact⟨i,yAc d,[],rfl,by rw [yo];exact c2,by simp,(fun z f=>by cases f),by simpa using U.out⟩
    case round =>
     obtain⟨j,u,g,rfl,V,B,X,p⟩:=hrel;have Y:=lh p;have Z:=lh B;have b6:=lh X;have a7:u.length+g.length=d.length:=(by rw [←yo d,B,zJ]);clear p U;rcases List.eq_nil_or_concat u with e | ⟨k,y,e⟩
     ·subst e;have c7:j=a:=(by simpa using V.symm);subst c7;have C:yAc (d++[x])=x::g:=mid_ins d [] g x Z.out (fun z f=>by cases f) X;have HF:=lh C;have c8:decide ((j:Int)<(j:Int))=false:=zP (by omega);clear B X C V;go_upto_region 4 with fail;go_quiet (fail);go_wp2;go_meet;have h:=Y.out;rw [HF.out];exact (by simpa using h:InS w base G c n (P++x::g++m++R) _).drewN _
     ·rw [List.concat_eq_append] at e;subst e;obtain⟨q,hq⟩:=nm (a+k.length);have c9:j=q+1:=(by rw [←V,zJ,ZM];omega);subst c9;obtain⟨N,a4⟩:=nm (P++(k++[y])++x::(g++m++R));have D:N=(P++k)++y::x::(g++m++R):=(by rw [←a4];simp);have E:(P++k).length=q:=(by rw [zJ];omega);have hs:N[q+1]? = some x:=by
       rw [D,show (P++k)++y::x::(g++m++R)=(P++k++[y])++x::(g++m++R) by simp,show q+1=(P++k++[y]).length by simp only [zJ,ZM] at E ⊢;omega];exact yFd _ _ _
      have ht:N[q]? = some y:=(by rw [D,←E];exact yFd _ _ _);have b7:yJw N q=P++k++x::((y::g)++m++R):=(by rw [D,←E,swapL_app];simp);have F:N.length=n:=(by rw [D];simp only [zJ,zb] at E a7 ⊢;simp at a7;omega);rw [a4] at Y;have a8:y∈d:=(yCy d y).1 (by rw [B];simp);have d0:=b4.out y (.inr (.inl (c6.out y a8)));have f6:q+1<n:=(by rw [←F];exact (zG.1 hs).1);have f7:IntKind.i64.wrap (((q+1:Nat):Int)-1)=(q:Int):=(by rw [ZH];omega);have c8:decide ((a:Int)<((q+1:Nat):Int))=true:=zQ (by omega);have f8:(q:Int)+1<(n:Int):=(by omega);have f9:(q:Int)<(n:Int):=(by omega);have g0:((q+1:Nat):Int)<(n:Int):=(by omega);have g1:(0:Int)≤(q:Int)+1:=(by omega);have g2:decide ((a:Int)<(q:Int)+1)=true:=zQ (by omega);have g3:IntKind.i64.wrap ((q:Int)+1-1)=(q:Int):=(by rw [ZH];omega);have g4:((q:Int)+1).toNat=q+1:=(by omega);have g5:IntKind.i64.wrap (q:Int)=(q:Int):=(by rw [ZH];omega);have g6:(0:Int)≤(q:Int):=(by omega);have a5:Hid (∀W,InS w base G c n N W→W.cell? ⟨G,(q+1)*4,none⟩=some (.int .i64 x.a)∧W.cell? ⟨G,(q+1)*4+1,none⟩=some (.bool x.back)∧W.cell? ⟨G,(q+1)*4+2,none⟩=some (.int .i64 (-1))∧W.cell? ⟨G,(q+1)*4+3,none⟩=some (.int .i64 x.x) ∧
       W.cell? ⟨G,q*4,none⟩=some (.int .i64 y.a)∧W.cell? ⟨G,q*4+1,none⟩=some (.bool y.back)∧W.cell? ⟨G,q*4+2,none⟩=some (.int .i64 (-1))∧W.cell? ⟨G,q*4+3,none⟩=some (.int .i64 y.x)∧InS w base G c n N W):=lh fun W h=>by
       obtain⟨_,_,H,I,J,K,_⟩:=yAn F h.own (q+1) x hs;obtain⟨_,_,L,M,O,Q,_⟩:=yAn F h.own q y ht;exact⟨H,I,J,K,L,M,O,Q,h⟩
      have b8:Hid (∀W,InS w base G c n N W→Calls Tryz.prog 91 #[.agg #[x.a,x.back,.int .i64 (-1),x.x],.agg #[y.a,y.back,.int .i64 (-1),y.x]] W fun e w'=>e=.returned (.int .i64 (x.x-y.x))∧InS w base G c n N w') :=
       lh fun W h=>(yLl x y c5 d0 W).mono fun e w' ⟨h1,h2⟩=>⟨h1,h.below h2⟩
      obtain⟨H,I,J,K,L,M,O,Q,hN⟩:=a5.out wr Y.out;have d1:=lh hs;have b9:=lh ht;have d2:=lh b7;have d3:=lh a4;have g7:=lh a8;clear hs ht Y D E a4 b7 B X a8 V a7;go_upto_region 4 with fail
      go_region_held3 (fun W=>W.cell? ⟨G,(q+1)*4,none⟩=some (.int .i64 x.a)∧W.cell? ⟨G,(q+1)*4+1,none⟩=some (.bool x.back)∧W.cell? ⟨G,(q+1)*4+2,none⟩=some (.int .i64 (-1))∧W.cell? ⟨G,(q+1)*4+3,none⟩=some (.int .i64 x.x) ∧
       W.cell? ⟨G,q*4,none⟩=some (.int .i64 y.a)∧W.cell? ⟨G,q*4+1,none⟩=some (.bool y.back)∧W.cell? ⟨G,q*4+2,none⟩=some (.int .i64 (-1))∧W.cell? ⟨G,q*4+3,none⟩=some (.int .i64 y.x)∧InS w base G c n N W)
       ((refine a5.out _ ?_;(repeat (first | assumption | refine InS.drew ?_))))
       ((go_at_call 91;refine (b8.out _ (by (repeat (first | assumption | refine InS.drew ?_)))).mono ?_;rintro e w5 ⟨rfl,c0⟩))
      have a6:=lh c0;clear H I J K L M O Q hN c0 b8;by_cases d4:x.x<y.x
      ·have d5:decide (x.x-y.x<0)=true:=zQ (by omega);have d6:x.x-y.x<0:=(by omega);have d7:=lh d4;go_upto_region 6 with fail;obtain⟨H,I,J,K,L,M,O,Q,_⟩:=a5.out w5 a6.out;obtain⟨_,_,_,_,_,_,o⟩:=yAn F a6.out.own q y b9.out;have e0:=o ((q+1)*4);have e1:=o ((q+1)*4+1);have e2:=o ((q+1)*4+2);have e3:=o ((q+1)*4+3);have f0:=o (q*4);have f1:=o (q*4+1);have f2:=o (q*4+2);have f3:=o (q*4+3);have d8:=lh (a6.out.swap F q x y d1.out b9.out);clear o a5
       go_region
       clear H I J K L M O Q e0 e1 e2 e3 f0 f1 f2 f3;go_wp2;go_roundw
       case rel=>exact⟨q,k,y::g,by go_num,hq,by rw [Z.out];simp,fun z f=>by rcases zX.1 f with rfl | f;exact d7.out;exact b6.out z f,by rw [←d2.out];exact d8.out.drew⟩
       case measure=>simp [intOf]
      ·have d5:decide (x.x-y.x<0)=false:=zP (by omega);have d6:¬ x.x-y.x<0:=(by omega);have C:yAc (d++[x])=(k++[y])++x::g:=mid_ins d (k++[y]) g x Z.out (fun z f=>by
        have c1:=yDl d;rw [Z.out] at c1;have h3:=((yDk (k++[y]) g).1 c1).1;rcases ZF.1 f with f | f
        ·have:=((yDk k [y]).1 h3).2.2 z f y (zO.2 rfl);omega
        ·rcases zO.1 f with rfl;omega) b6.out
       have HF:=lh C;clear C;go_wp2;go_meet;have h:=a6.out;rw [←d3.out] at h;rw [HF.out];simpa using h
   case rest =>
    have d9:=lh hcut;clear hcut U;go_wp2;go_roundw
    case rel=>exact⟨i+1,d++[x],m,by go_num,by omega,by omega,by rw [c4.out];simp,.inr (by rw [zJ,ZM];omega),d9.out⟩
    case measure=>simp [intOf];omega
  ·have e4:r=[]:=by
    rcases T with h | h
    ·rw [h] at l;exact (List.append_eq_nil_iff.1 l.symm).2
    ·have:=Zb List.length l;rw [zJ] at this;exact ZE.1 (by omega)
   subst e4;rw [zq] at l;subst l;clear T;go_wp2
   go_end0
   have h:=U.out;rw [zq] at h;exact⟨rfl,h⟩
theorem yLo {P A R:List St} {k:Nat} {x:St} (h:A[k]? = some x):(P++A++R)[P.length+k]? = some x:=by
 rw [zZ,zr (by omega),Nat.add_sub_cancel_left,zt (zG.1 h).1];exact h
theorem ins_at (B:List St) (x:St) (b:yBg B) (s:Nat) (e:s≤B.length) (f:s=0∨∃z,B[s-1]? = some z∧z.x<x.x) (g:s=B.length∨∃z,B[s]? = some z∧¬ z.x<x.x):mg [x] B=B.take s++x::B.drop s:=by
 have j:=yMp [x] B ⟨fun y a=>qF a (by simp),trivial⟩ b 0 s (zd _) e (.inl rfl) (by
  rcases f with h | ⟨z,h,c⟩
  ·exact .inr (.inl h)
  ·exact .inr (.inr ⟨x,z,rfl,h,c⟩))
 rw [j];show B.take s++yAb x (B.drop s)=_;rw [yJ6];intro y a;rcases g with h | ⟨z,h,c⟩
 ·rw [h,Zi] at a;cases a
 ·obtain⟨i,d⟩:=qk.1 a;rw [ZI] at d;have:=yFw B b s (s+i) z y (by omega) h d;omega
theorem ins_at2 (A:List St) (y:St) (c:yBg A) (s:Nat) (f:s≤A.length) (g:s=0∨∃z,A[s-1]? = some z∧¬ y.x<z.x) (j:s=A.length∨∃z,A[s]? = some z∧y.x<z.x):mg A [y]=A.take s++y::A.drop s:=by
 have k:=yMp A [y] c ⟨fun y l=>qF l (by simp),trivial⟩ s 0 f (zd _) (by
  rcases g with h | ⟨z,h,m⟩
  ·exact .inl h
  ·exact .inr (.inr ⟨z,y,h,rfl,by omega⟩)) (.inr (.inl rfl))
 have n:yBg (A.drop s):=by
  have:=c;rw [←zw s A] at this;exact ((yDk _ _).1 this).2.1
 have o:yBg (A.take s):=by
  have:=c;rw [←zw s A] at this;exact ((yDk _ _).1 this).1
 rw [k];show mg (A.take s) []++mg (A.drop s) [y]=_;rw [yKd _ o]
 congr 1
 have:=yOk [y] [] (A.drop s) (fun a d b p=>by
  rcases zO.1 p with rfl;rcases j with h | ⟨z,h,m⟩
  ·rw [h,Zi] at d;cases d
  ·obtain⟨i,e⟩:=qk.1 d;rw [ZI] at e;have:=yFw A c s (s+i) z a (by omega) h e;omega)
 rw [yKd _ n] at this;exact this
theorem half_bd (i j:Nat) (h:i<j):i≤(i+j) / 2∧(i+j) / 2<j:=by omega
theorem symA_any (G c N base:Nat) (w:World) (P B R:List St) (x:St) (a m b:Nat) (ha:P.length=a) (hm:m=a+1) (hb:m+B.length=b) (Z:(P++x::(B++R)).length=N) (hN:N≤8388608) (hB:yBg B) (hx:yAe (P++x::(B++R))) (W:World) (hS:InS w base G c N (P++x::(B++R)) W) :
 Calls Tryz.prog 176 #[.slice (some ⟨G,0,none⟩) N c,a,m,b,.func (.func 91) #[] #[]] W fun e w'=>e=.returned (.tuple #[])∧InS w base G c N (P++mg [x] B++R) w':=by
 have f8:a+1≤m:=by omega
 have f9:m≤a+1:=by omega
 clear hm;have a4:=lh hS;have d3:=lh hx;have c1:=lh hB;obtain⟨d,A⟩:∃M,P++x::(B++R)=M:=⟨_,rfl⟩;have a5:Hid (∀z∈d,-1099511627776≤z.x∧z.x≤1099511627776):=lh (by rw [←A];exact hx);rw [A] at a4;have r:d.length=N:=by rw [←A];exact Z
 have g0:b+R.length=N:=by rw [←Z];simp;omega
 have g1:IntKind.i64.wrap ((m:Int)-(a:Int))=1:=by rw [ZH];omega
 have a6:=lh A;have HA:=lh ha;clear hS Z hx hB A d3 ha;go_enter Tryz.func176,Tryz.ntmps176;go_upto_block 0 with fail;go_wp2;go_loopw [10,11,12] (fun u10 u11 _ wx=>∃i j:Nat,u10=.int .i64 i∧u11=.int .i64 j∧m≤i∧i≤j∧j≤b∧(i=m∨∃z,B[i-1-m]? = some z∧z.x<x.x)∧(j=b∨∃z,B[j-m]? = some z∧x.x≤z.x)∧InS w base G c N d wx) (fun u10 u11 _ _=>(intOf u11).toNat-(intOf u10).toNat)
 case atStart=>exact⟨m,b,rfl,rfl,zT _,by omega,zT _,.inl rfl,.inl rfl,a4.out⟩
 case round =>
  obtain⟨i,j,rfl,rfl,d4,g2,d5,c2,c3,C⟩:=hrel;have g:=lh C;have a7:=lh c2;have a8:=lh c3;clear C c2 c3 a4;by_cases d6:i<j
  ·obtain⟨h,hh⟩:=nm ((i+j) / 2);have d7:i≤h∧h<j:=(by rw [←hh];exact half_bd i j d6);obtain⟨y,hy⟩:∃y,B[h-m]? = some y:=⟨_,zF (by omega)⟩;have HY:=lh hy;have d8:(i:Int)<(j:Int):=(by omega);have g3:IntKind.i64.wrap ((i:Int)+(j:Int))=((i+j:Nat):Int):=(by rw [ZH];omega);have g4:((i:Int)+(j:Int)) / 2=(h:Int):=(by omega);have G1:d[h]? = some y:=by
    have V:=yLo (P:=P++[x]) (R:=R) HY.out;have h2:=HA.out;rw [show (P++[x]).length+(h-m)=h by rw [zJ,ZM];omega] at V;rw [←a6.out];simpa using V
   have G2:d[a]? = some x:=(by rw [←a6.out,←HA.out];exact yFd _ _ _);have HH:=lh hh;clear hh hy;have o:d[h]? = some y:=G1;have n:d[a]? = some x:=G2;have a9:Hid (∀W,InS w base G c N d W→W.cell? ⟨G,(h)*4,none⟩=some (.int .i64 y.a)∧W.cell? ⟨G,(h)*4+1,none⟩=some (.bool y.back)∧W.cell? ⟨G,(h)*4+2,none⟩=some (.int .i64 (-1))∧W.cell? ⟨G,(h)*4+3,none⟩=some (.int .i64 y.x) ∧
    W.cell? ⟨G,(a)*4,none⟩=some (.int .i64 x.a)∧W.cell? ⟨G,(a)*4+1,none⟩=some (.bool x.back)∧W.cell? ⟨G,(a)*4+2,none⟩=some (.int .i64 (-1))∧W.cell? ⟨G,(a)*4+3,none⟩=some (.int .i64 x.x)∧InS w base G c N d W):=lh fun W b4=>by
    obtain⟨_,_,D,E,F,H,_⟩:=yAn r b4.own (h) y o;obtain⟨_,_,I,J,K,L,_⟩:=yAn r b4.own (a) x n;exact⟨D,E,F,H,I,J,K,L,b4⟩
   have d9:=a5.out y (zS o);have e4:=a5.out x (zS n);have c4:Hid (∀W,InS w base G c N d W→Calls Tryz.prog 91 #[.agg #[y.a,y.back,.int .i64 (-1),y.x],.agg #[x.a,x.back,.int .i64 (-1),x.x]] W fun e w'=>e=.returned (.int .i64 (y.x-x.x))∧InS w base G c N d w') :=
    lh fun W h=>(yLl y x d9 e4 W).mono fun e w' ⟨V,h2⟩=>⟨V,h.below h2⟩
   obtain⟨D,E,F,H,I,J,K,L,hN⟩:=a9.out wr g.out;have c5:((h:Nat):Int)<(N:Int):=(by have:=(zG.1 o).1;omega);have c6:((a:Nat):Int)<(N:Int):=(by have:=(zG.1 n).1;omega);clear o n g;go_upto_region 5 with fail
   go_region_held3 (fun W=>W.cell? ⟨G,(h)*4,none⟩=some (.int .i64 y.a)∧W.cell? ⟨G,(h)*4+1,none⟩=some (.bool y.back)∧W.cell? ⟨G,(h)*4+2,none⟩=some (.int .i64 (-1))∧W.cell? ⟨G,(h)*4+3,none⟩=some (.int .i64 y.x) ∧
    W.cell? ⟨G,(a)*4,none⟩=some (.int .i64 x.a)∧W.cell? ⟨G,(a)*4+1,none⟩=some (.bool x.back)∧W.cell? ⟨G,(a)*4+2,none⟩=some (.int .i64 (-1))∧W.cell? ⟨G,(a)*4+3,none⟩=some (.int .i64 x.x)∧InS w base G c N d W)
    ((refine a9.out _ ?_;(repeat (first | assumption | refine InS.drew ?_))))
    ((go_at_call 91;refine (c4.out _ (by (repeat (first | assumption | refine InS.drew ?_)))).mono ?_;rintro e w5 ⟨rfl,c7⟩))
   have c8:=lh c7;clear D E F H I J K L hN c7 c4 a9 c5 c6;clear G1 G2;by_cases X:y.x<x.x
   ·have e5:decide (y.x-x.x<0)=true:=zQ (by omega);have e6:y.x-x.x<0:=(by omega);have b5:=lh X;have g5:IntKind.i64.wrap ((h:Int)+1)=((h+1:Nat):Int):=(by rw [ZH];omega);clear X;go_wp2;go_roundw
    case rel=>exact⟨h+1,j,by go_num,rfl,by omega,by omega,d5,.inr ⟨y,by rw [show h+1-1-m=h-m by omega];exact HY.out,b5.out⟩,a8.out,c8.out⟩
    case measure=>simp [intOf];omega
   ·have e5:decide (y.x-x.x<0)=false:=zP (by omega);have e6:¬ y.x-x.x<0:=(by omega);have b5:=lh X;clear X;go_wp2;go_roundw
    case rel=>exact⟨i,h,rfl,by go_num,d4,d7.1,by omega,a7.out,.inr ⟨y,HY.out,by have:=b5.out;omega⟩,c8.out⟩
    case measure=>simp [intOf];omega
  ·obtain rfl:i=j:=(by omega);obtain⟨s,hs⟩:=nm (i-m);have e7:s≤B.length:=(by omega);have b6:=ins_at B x c1.out s e7 (by
    rcases a7.out with h | ⟨z,h,hz⟩
    ·exact .inl (by omega)
    ·exact .inr ⟨z,by rw [←hs,show i-m-1=i-1-m by omega];exact h,hz⟩) (by
    rcases a8.out with h | ⟨z,h,hz⟩
    ·exact .inl (by omega)
    ·exact .inr ⟨z,by rw [←hs];exact h,by omega⟩)
   obtain⟨O,Y⟩:∃l,B.take s=l:=⟨_,rfl⟩;obtain⟨p,b7⟩:∃l,B.drop s=l:=⟨_,rfl⟩;have b8:B=O++p:=(by rw [←Y,←b7,zw]);have c9:O.length=s:=(by rw [←Y,za];omega);rw [Y,b7] at b6;have g6:s+p.length=B.length:=(by rw [b8,zJ,c9]);have e8:=lh b6;have e9:=lh b8;have g7:=HA.out;have g8:IntKind.i64.wrap ((i:Int)-1)=((i-1:Nat):Int):=(by rw [ZH];omega);have d8:¬ (i:Int)<(i:Int):=(by omega);have d0:Hid (InS w base G c N (P++x::(O++(p++R))) wr):=lh (by have h:=g.out;rw [←a6.out,e9.out] at h;simpa using h);clear b6 b8 Y b7 a7 a8 c1 g a5 r;go_wp2;go_loopw [13] (fun u13 wx=>∃(k:Nat) (f u:List St),u13=.int .i64 k∧O=f++u∧a+f.length=k∧InS w base G c N (P++f++x::(u++(p++R))) wx) (fun u13 _=>b-(intOf u13).toNat)
   case atStart=>exact⟨a,[],O,rfl,rfl,rfl,by simpa using d0.out⟩
   case round =>
    obtain⟨k,f,u,rfl,Q,g9,C⟩:=hrel;have g:=lh C;have d1:f.length+u.length=s:=(by rw [←c9,Q,zJ]);clear C d0;by_cases hk:k<i-1
    ·obtain⟨z,v,rfl⟩:∃z t,u=z::t:=by
      cases u with
      | nil=>simp at d1;omega
      | cons z t=>exact⟨z,t,rfl⟩
     rw [zb] at d1;have f4:(k:Int)<((i-1:Nat):Int):=(by omega);obtain⟨S,b9⟩:∃M,P++f++x::(z::v++(p++R))=M:=⟨_,rfl⟩;have T:S=(P++f)++x::([]++z::(v++(p++R))):=(by rw [←b9];simp);have U:(P++f).length=k:=(by rw [zJ];omega);rw [b9] at g;have r:S.length=N:=(by rw [T];simp only [zJ,zb,zn];simp only [zJ] at U;omega);have o:S[k]? = some x:=(by rw [T,←U];exact get_fst _ _ _ _ _);have n:S[k+1]? = some z:=by
      have h:=get_snd (P++f) [] (v++(p++R)) x z;rw [zn,Zl,U] at h;rw [T];exact h
     have d2:(S.set k z).set (k+1) x=(P++f)++z::([]++x::(v++(p++R))):=by
      have h:=set_two (P++f) [] (v++(p++R)) x z;rw [zn,Zl,U] at h;rw [T];exact h
     have h0:(k:Int)+1<(N:Int):=(by have:=(zG.1 n).1;omega);have h3:(0:Int)≤(k:Int)+1:=(by omega);have h4:((k:Int)+1).toNat=k+1:=(by omega);have h5:IntKind.i64.wrap ((k:Int)+1)=(k:Int)+1:=(by rw [ZH];omega);have f5:=lh Q;clear b9 T U Q;obtain⟨_,_,D,E,F,H,q⟩:=yAn r g.out.own (k) x o;obtain⟨_,_,I,J,K,L,_⟩:=yAn r g.out.own (k+1) z n;have e0:=q ((k)*4);have e1:=q ((k)*4+1);have e2:=q ((k)*4+2);have e3:=q ((k)*4+3);have f0:=q ((k+1)*4);have f1:=q ((k+1)*4+1);have f2:=q ((k+1)*4+2);have f3:=q ((k+1)*4+3);have c0:=g.out.sw r (k) (k+1) (by omega) x z o n;rw [d2] at c0;have f6:=lh c0;have c5:((k:Nat):Int)<(N:Int):=(by have:=(zG.1 o).1;omega);have c6:((k+1:Nat):Int)<(N:Int):=(by have:=(zG.1 n).1;omega);clear q c0 d2 o n g;go_upto_region 11 with fail
     go_region
     clear D E F H I J K L e0 e1 e2 e3 f0 f1 f2 f3;go_wp2;go_roundw
     case rel=>exact⟨k+1,f++[z],v,by go_num,by rw [f5.out];simp,by rw [zJ,ZM];omega,by have h:=f6.out.drew;simpa using h⟩
     case measure=>simp [intOf];omega
    ·have f4:¬ (k:Int)<((i-1:Nat):Int):=(by omega);have f7:u=[]:=ZE.1 (by omega);subst f7;rw [zq] at Q;subst Q;go_wp2;refine qC (results_none rfl _ _ _) rfl ?_;exact⟨rfl,by rw [e8.out];simpa using g.out⟩
theorem set_rev (a b:List St) (x y:St):((a++x::y::b).set (a.length+1) x).set a.length y=a++y::x::b:=by
 have h:=set_two a [] b x y;rw [zn,Zl,zp,zp] at h;rw [List.set_comm _ _ (by omega)];exact h
theorem symB_any (G c N base:Nat) (w:World) (P A R:List St) (y:St) (a m b:Nat) (ha:P.length=a) (hm:a+A.length=m) (g0:2≤A.length) (hb:b=m+1) (hl:(P++A++y::R).length=N) (hN:N≤8388608) (hA:yBg A) (hx:yAe (P++A++y::R)) (W:World) (hS:InS w base G c N (P++A++y::R) W) :
 Calls Tryz.prog 176 #[.slice (some ⟨G,0,none⟩) N c,a,m,b,.func (.func 91) #[] #[]] W fun e w'=>e=.returned (.tuple #[])∧InS w base G c N (P++mg A [y]++R) w':=by
 have g1:m+1≤b:=by omega
 have g2:b≤m+1:=by omega
 clear hb;have a4:=lh hS;have c4:=lh hA;obtain⟨d,D⟩:∃M,P++A++y::R=M:=⟨_,rfl⟩;have a5:Hid (∀z∈d,-1099511627776≤z.x∧z.x≤1099511627776):=lh (by rw [←D];exact hx);rw [D] at a4;have u:d.length=N:=by rw [←D];exact hl
 have g3:m+1+R.length=N:=by rw [←hl];simp;omega
 have g4:IntKind.i64.wrap ((m:Int)-(a:Int))=(A.length:Int):=by rw [ZH];omega
 have g5:((A.length:Int)==1)=false:=zN.2 (by omega);have g6:IntKind.i64.wrap ((b:Int)-(m:Int))=1:=by rw [ZH];omega
 have a6:=lh D;have HA:=lh ha;clear hS hl hx hA D ha;go_enter Tryz.func176,Tryz.ntmps176;go_upto_block 4 with fail;go_wp2;go_loopw [14,15,16] (fun u14 u15 _ wx=>∃i j:Nat,u14=.int .i64 i∧u15=.int .i64 j∧a≤i∧i≤j∧j≤m∧(i=a∨∃z,A[i-1-a]? = some z∧z.x≤y.x)∧(j=m∨∃z,A[j-a]? = some z∧y.x<z.x)∧InS w base G c N d wx) (fun u14 u15 _ _=>(intOf u15).toNat-(intOf u14).toNat)
 case atStart=>exact⟨a,m,rfl,rfl,zT _,by omega,zT _,.inl rfl,.inl rfl,a4.out⟩
 case round =>
  obtain⟨i,j,rfl,rfl,d5,g7,d6,c5,c6,E⟩:=hrel;have f:=lh E;have a7:=lh c5;have a8:=lh c6;clear E c5 c6 a4;by_cases d7:i<j
  ·obtain⟨h,hh⟩:=nm ((i+j) / 2);have d8:i≤h∧h<j:=(by rw [←hh];exact half_bd i j d7);obtain⟨x,c7⟩:∃x,A[h-a]? = some x:=⟨_,zF (by omega)⟩;have HX:=lh c7;have d9:(i:Int)<(j:Int):=(by omega);have g8:IntKind.i64.wrap ((i:Int)+(j:Int))=((i+j:Nat):Int):=(by rw [ZH];omega);have g9:((i:Int)+(j:Int)) / 2=(h:Int):=(by omega);have G2:d[h]? = some x:=by
    have Y:=yLo (P:=P) (R:=y::R) HX.out;have h2:=HA.out;rw [show P.length+(h-a)=h by omega] at Y;rw [←a6.out];exact Y
   have G1:d[m]? = some y:=by
    have h2:=HA.out;rw [←a6.out,show m=(P++A).length by rw [zJ];omega];exact yFd _ _ _
   have HH:=lh hh;clear hh c7;have p:d[m]? = some y:=G1;have g:d[h]? = some x:=G2;have a9:Hid (∀W,InS w base G c N d W→W.cell? ⟨G,(m)*4,none⟩=some (.int .i64 y.a)∧W.cell? ⟨G,(m)*4+1,none⟩=some (.bool y.back)∧W.cell? ⟨G,(m)*4+2,none⟩=some (.int .i64 (-1))∧W.cell? ⟨G,(m)*4+3,none⟩=some (.int .i64 y.x) ∧
    W.cell? ⟨G,(h)*4,none⟩=some (.int .i64 x.a)∧W.cell? ⟨G,(h)*4+1,none⟩=some (.bool x.back)∧W.cell? ⟨G,(h)*4+2,none⟩=some (.int .i64 (-1))∧W.cell? ⟨G,(h)*4+3,none⟩=some (.int .i64 x.x)∧InS w base G c N d W):=lh fun W b4=>by
    obtain⟨_,_,F,H,I,J,_⟩:=yAn u b4.own (m) y p;obtain⟨_,_,K,L,O,Q,_⟩:=yAn u b4.own (h) x g;exact⟨F,H,I,J,K,L,O,Q,b4⟩
   have e4:=a5.out y (zS p);have e5:=a5.out x (zS g);have c8:Hid (∀W,InS w base G c N d W→Calls Tryz.prog 91 #[.agg #[y.a,y.back,.int .i64 (-1),y.x],.agg #[x.a,x.back,.int .i64 (-1),x.x]] W fun e w'=>e=.returned (.int .i64 (y.x-x.x))∧InS w base G c N d w') :=
    lh fun W h=>(yLl y x e4 e5 W).mono fun e w' ⟨Y,h2⟩=>⟨Y,h.below h2⟩
   obtain⟨F,H,I,J,K,L,O,Q,hN⟩:=a9.out wr f.out;have c9:((m:Nat):Int)<(N:Int):=(by have:=(zG.1 p).1;omega);have d0:((h:Nat):Int)<(N:Int):=(by have:=(zG.1 g).1;omega);clear p g f;go_upto_region 17 with fail
   go_region_held3 (fun W=>W.cell? ⟨G,(m)*4,none⟩=some (.int .i64 y.a)∧W.cell? ⟨G,(m)*4+1,none⟩=some (.bool y.back)∧W.cell? ⟨G,(m)*4+2,none⟩=some (.int .i64 (-1))∧W.cell? ⟨G,(m)*4+3,none⟩=some (.int .i64 y.x) ∧
    W.cell? ⟨G,(h)*4,none⟩=some (.int .i64 x.a)∧W.cell? ⟨G,(h)*4+1,none⟩=some (.bool x.back)∧W.cell? ⟨G,(h)*4+2,none⟩=some (.int .i64 (-1))∧W.cell? ⟨G,(h)*4+3,none⟩=some (.int .i64 x.x)∧InS w base G c N d W)
    ((refine a9.out _ ?_;(repeat (first | assumption | refine InS.drew ?_))))
    ((go_at_call 91;refine (c8.out _ (by (repeat (first | assumption | refine InS.drew ?_)))).mono ?_;rintro e w5 ⟨rfl,d1⟩))
   have d2:=lh d1;clear F H I J K L O Q hN d1 c8 a9 c9 d0;clear G1 G2;by_cases hc:y.x<x.x
   ·have b5:decide (y.x-x.x<0)=true:=zQ (by omega);have e6:y.x-x.x<0:=(by omega);have e7:decide (0≤y.x-x.x)=false:=zP (by omega);have b6:(!decide (y.x-x.x<0))=false:=(by rw [b5];rfl);have b7:=lh hc;clear hc;go_wp2
    all_goals (try (rename_i v;rw [b6] at v;cases v))
    go_roundw
    case rel=>exact⟨i,h,rfl,by go_num,d5,d8.1,by omega,a7.out,.inr ⟨x,HX.out,b7.out⟩,d2.out⟩
    case measure=>simp [intOf];omega
   ·have b5:decide (y.x-x.x<0)=false:=zP (by omega);have e6:¬ y.x-x.x<0:=(by omega);have e7:decide (0≤y.x-x.x)=true:=zQ (by omega);have b6:(!decide (y.x-x.x<0))=true:=(by rw [b5];rfl);have b7:=lh (show x.x≤y.x by omega);have h0:IntKind.i64.wrap ((h:Int)+1)=((h+1:Nat):Int):=(by rw [ZH];omega);clear hc;go_wp2
    all_goals (try (rename_i v;rw [b6] at v;cases v))
    go_roundw
    case rel=>exact⟨h+1,j,by go_num,rfl,by omega,by omega,d6,.inr ⟨x,by rw [show h+1-1-a=h-a by omega];exact HX.out,b7.out⟩,a8.out,d2.out⟩
    case measure=>simp [intOf];omega
  ·obtain rfl:i=j:=(by omega);obtain⟨s,hs⟩:=nm (i-a);have e8:s≤A.length:=(by omega);have b8:=ins_at2 A y c4.out s e8 (by
    rcases a7.out with h | ⟨z,h,hz⟩
    ·exact .inl (by omega)
    ·exact .inr ⟨z,by rw [←hs,show i-a-1=i-1-a by omega];exact h,by omega⟩) (by
    rcases a8.out with h | ⟨z,h,hz⟩
    ·exact .inl (by omega)
    ·exact .inr ⟨z,by rw [←hs];exact h,hz⟩)
   obtain⟨n,Z⟩:∃l,A.take s=l:=⟨_,rfl⟩;obtain⟨C,b9⟩:∃l,A.drop s=l:=⟨_,rfl⟩;have c0:A=n++C:=(by rw [←Z,←b9,zw]);have e9:n.length=s:=(by rw [←Z,za];omega);rw [Z,b9] at b8;have h3:s+C.length=A.length:=(by rw [c0,zJ,e9]);have f4:=lh b8;have f5:=lh c0;have h4:=HA.out;have d9:¬ (i:Int)<(i:Int):=(by omega);have d3:Hid (InS w base G c N (P++n++C++y::R) wr):=lh (by have h:=f.out;rw [←a6.out,f5.out] at h;simpa using h);clear b8 c0 Z b9 a7 a8 c4 f a5 u;go_wp2;go_loopw [17] (fun u17 wx=>∃(k:Nat) (B o:List St),u17=.int .i64 k∧C=B++o∧i+B.length=k∧InS w base G c N (P++n++B++y::(o++R)) wx) (fun u17 _=>(intOf u17).toNat)
   case atStart=>exact⟨m,C,[],rfl,by simp,by omega,by simpa using d3.out⟩
   case round =>
    obtain⟨k,B,o,rfl,S,T,E⟩:=hrel;have f:=lh E;have f6:B.length+o.length=C.length:=(by rw [S,zJ]);clear E d3;by_cases hk:i<k
    ·rcases List.eq_nil_or_concat B with e | ⟨t,z,e⟩
     ·rw [e] at T;simp at T;omega
     rw [List.concat_eq_append] at e;subst e;obtain⟨q,hq⟩:=nm (i+t.length);have h5:q+1≤k:=(by rw [zJ,ZM] at T;omega);have h6:k≤q+1:=(by rw [zJ,ZM] at T;omega);have f7:(i:Int)<(k:Int):=(by omega);obtain⟨U,c1⟩:∃M,P++n++(t++[z])++y::(o++R)=M:=⟨_,rfl⟩;have V:U=(P++n++t)++z::y::(o++R):=(by rw [←c1];simp);have X:(P++n++t).length=q:=(by rw [zJ,zJ];omega);rw [c1] at f;have c2:k=q+1:=(by omega);have u:U.length=N:=(by rw [V];simp only [zJ,zb];simp only [zJ,ZM] at X f6;omega);have p:U[k]? = some y:=by
      have h:=get_snd (P++n++t) [] (o++R) z y;rw [zn,Zl,X] at h;rw [V,c2];exact h
     have g:U[q]? = some z:=(by rw [V,←X];exact yFd _ _ _);have d4:(U.set k z).set q y=(P++n++t)++y::z::(o++R):=by
      have h:=set_rev (P++n++t) (o++R) z y;rw [X] at h;rw [V,c2];exact h
     have h7:(q:Int)<(N:Int):=(by have:=(zG.1 g).1;omega);have h8:IntKind.i64.wrap ((k:Int)-1)=(q:Int):=(by rw [ZH];omega);have f8:=lh S;clear c1 V X S c2 T;obtain⟨_,_,F,H,I,J,r⟩:=yAn u f.out.own (k) y p;obtain⟨_,_,K,L,O,Q,_⟩:=yAn u f.out.own (q) z g;have e0:=r ((k)*4);have e1:=r ((k)*4+1);have e2:=r ((k)*4+2);have e3:=r ((k)*4+3);have f0:=r ((q)*4);have f1:=r ((q)*4+1);have f2:=r ((q)*4+2);have f3:=r ((q)*4+3);have c3:=f.out.sw u (k) (q) (by omega) y z p g;rw [d4] at c3;have f9:=lh c3;have c9:((k:Nat):Int)<(N:Int):=(by have:=(zG.1 p).1;omega);have d0:((q:Nat):Int)<(N:Int):=(by have:=(zG.1 g).1;omega);clear r c3 d4 p g f;go_upto_region 23 with fail
     go_region
     clear F H I J K L O Q e0 e1 e2 e3 f0 f1 f2 f3;go_wp2;go_roundw
     case rel=>exact⟨q,t,z::o,by go_num,by rw [f8.out];simp,hq,by have h:=f9.out.drew;simpa using h⟩
     case measure=>simp [intOf];omega
    ·have f7:¬ (i:Int)<(k:Int):=(by omega);have v:B=[]:=ZE.1 (by omega);subst v;rw [zp] at S;subst S;go_wp2;refine qC (results_none rfl _ _ _) rfl ?_;exact⟨rfl,by rw [f4.out];simpa using f.out⟩
theorem sym_split (A B:List St) (w:yBg A) (z:yBg B) (u v a m b j e p f g i c d:Nat) (O:A.length=u) (P:B.length=v) (Q:m=a+u) (R:b=m+v) (S:e=j+m) (T:p+1=e) (U:a≤f) (V:g≤j) (W:g≤m) (X:e≤b+f) (Y:f≤i) (Z:i≤g)
 (C:(f=a∨f+b=e)∧(g=m∨g=j)) (a0:i=a+c) (a1:j=i+d)
 (H:i=f∨∃x y,A[i-1-a]? = some x∧B[e-i-m]? = some y∧x.x≤y.x) (I:i=g∨∃x y,A[i-a]? = some x∧B[p-i-m]? = some y∧y.x<x.x) :
 ∃k l n o,A=k++l∧B=n++o∧k.length=c∧l.length+c=u∧n.length=d∧o.length+d=v∧yBg k∧yBg l∧yBg n∧yBg o∧mg A B=mg k n++mg l o:=by
 have J:=yMp A B w z c d (by omega) (by omega) (by
  rcases H with h | ⟨x,y,q,r,s⟩
  ·rcases C.1 with t | t
   ·exact .inl (by omega)
   ·exact .inr (.inl (by omega))
  ·exact .inr (.inr ⟨x,y,by rw [show c-1=i-1-a by omega];exact q,by rw [show d=e-i-m by omega];exact r,s⟩)) (by
  rcases I with h | ⟨x,y,q,r,s⟩
  ·rcases C.2 with t | t
   ·exact .inl (by omega)
   ·exact .inr (.inl (by omega))
  ·exact .inr (.inr ⟨x,y,by rw [show c=i-a by omega];exact q,by rw [show d-1=p-i-m by omega];exact r,s⟩))
 have D:A.take c++A.drop c=A:=zw c A;have E:B.take d++B.drop d=B:=zw d B;have F:=w;rw [←D] at F;have G:=z;rw [←E] at G;obtain⟨K,L,_⟩:=(yDk _ _).1 F;obtain⟨M,N,_⟩:=(yDk _ _).1 G;exact⟨A.take c,A.drop c,B.take d,B.drop d,D.symm,E.symm,by rw [za];omega,by rw [zy];omega,by rw [za];omega,by rw [zy];omega,K,L,M,N,J⟩
theorem sym_calls (G c N base:Nat) (w:World) (P j d f k R:List St) (a i m l e b T:Nat) (F:P.length=a) (H:a+j.length=i) (s:i+d.length=m) (I:i+f.length=l) (t:m+f.length=e) (J:e+k.length=b) (K:l+d.length=e) (Z:j.length+d.length+f.length+k.length=T) (a0:0<d.length+k.length) (a1:0<j.length+f.length) (L:N≤8388608)
 (M:(P++(j++d)++(f++k)++R).length=N) (O:yBg j) (Q:yBg d) (S:yBg f) (U:yBg k) (V:∀z,z∈P∨z∈j++d∨z∈f++k∨z∈R → -1099511627776≤z.x∧z.x≤1099511627776)
 (A:∀(q n o r:List St) (u v B:Nat),q.length=u→u+n.length=v→v+o.length=B→1≤n.length→1≤o.length→n.length+o.length<T→(q++n++o++r).length=N→yBg n→yBg o→yAe (q++n++o++r) →
   ∀g,InS w base G c N (q++n++o++r) g→Calls Tryz.prog 176 #[.slice (some ⟨G,0,none⟩) N c,u,v,B,.func (.func 91) #[] #[]] g fun e w'=>e=.returned (.tuple #[])∧InS w base G c N (q++mg n o++r) w') :
 (i<m→m<e→∀g,InS w base G c N (P++j++d++(f++k++R)) g→Calls Tryz.prog 209 #[.slice (some ⟨G,0,none⟩) N c,i,m,e,.func (.func 91) #[] #[]] g fun e w'=>e=.returned (.tuple #[])∧InS w base G c N (P++j++f++(d++k++R)) w') ∧
 (a<i→i<l→∀g,InS w base G c N (P++j++f++(d++k++R)) g→Calls Tryz.prog 176 #[.slice (some ⟨G,0,none⟩) N c,a,i,l,.func (.func 91) #[] #[]] g fun e w'=>e=.returned (.tuple #[])∧InS w base G c N (P++mg j f++(d++k++R)) w') ∧
 (l<e→e<b→∀g,InS w base G c N (P++mg j f++(d++k++R)) g→Calls Tryz.prog 176 #[.slice (some ⟨G,0,none⟩) N c,l,e,b,.func (.func 91) #[] #[]] g fun e w'=>e=.returned (.tuple #[])∧InS w base G c N (P++mg j f++mg d k++R) w'):=by
 have W:=M;simp only [zJ] at W;have C:∀z,(z∈P∨z∈j∨z∈d∨z∈f∨z∈k∨z∈R) → -1099511627776≤z.x∧z.x≤1099511627776:=fun z p=>V z (by
  simp only [ZF];rcases p with h | h | h | h | h | h
  ·exact .inl h
  ·exact .inr (.inl (.inl h))
  ·exact .inr (.inl (.inr h))
  ·exact .inr (.inr (.inl (.inl h)))
  ·exact .inr (.inr (.inl (.inr h)))
  ·exact .inr (.inr (.inr h)))
 refine⟨fun D E g h=>?_,fun D E g h=>?_,fun D E g h=>?_⟩
 ·have y:InS w base G c N ((P++j)++d++f++(k++R)) g:=(by simpa using h);refine (rot_any G c N base w (P++j) d f (k++R) i m e (by rw [zJ];omega) s t (fun h=>by rw [h] at s;simp at s;omega) (fun h=>by rw [h] at t;simp at t;omega) (by simp only [zJ];omega) L _ g y).mono ?_;rintro e' w' ⟨X,Y⟩;exact⟨X,by simpa using Y⟩
 ·refine A P j f (d++k++R) a i l F H I (by omega) (by omega) (by omega) (by simp only [zJ];omega) O S (fun z p=>C z ?_) g h;simp only [ZF] at p;rcases p with ((h | h) | h) | ((h | h) | h)
  ·exact .inl h
  ·exact .inr (.inl h)
  ·exact .inr (.inr (.inr (.inl h)))
  ·exact .inr (.inr (.inl h))
  ·exact .inr (.inr (.inr (.inr (.inl h))))
  ·exact .inr (.inr (.inr (.inr (.inr h))))
 ·have y:InS w base G c N ((P++mg j f)++d++k++R) g:=(by simpa using h);refine A (P++mg j f) d k R l e b (by rw [zJ,mg_len];omega) K J (by omega) (by omega) (by omega) (by simp only [zJ,mg_len];omega) Q U (fun z p=>C z ?_) g y;simp only [ZF,mg_mem] at p;rcases p with (((h | h | h) | h) | h) | h
  ·exact .inl h
  ·exact .inr (.inl h)
  ·exact .inr (.inr (.inr (.inl h)))
  ·exact .inr (.inr (.inl h))
  ·exact .inr (.inr (.inr (.inr (.inl h))))
  ·exact .inr (.inr (.inr (.inr (.inr h))))
theorem symG_any (G c N base:Nat) (w:World) (P A B R:List St) (a m b:Nat) (ha:P.length=a) (hm:a+A.length=m) (hb:m+B.length=b) (h8:2≤A.length) (h9:2≤B.length) (hl:(P++A++B++R).length=N) (hN:N≤8388608) (hA:yBg A) (hB:yBg B) (hx:yAe (P++A++B++R))
 (IH:∀(P' L O R':List St) (a' m' b':Nat),P'.length=a'→a'+L.length=m'→m'+O.length=b'→1≤L.length→1≤O.length→L.length+O.length<A.length+B.length→(P'++L++O++R').length=N→yBg L→yBg O→yAe (P'++L++O++R') →
   ∀W',InS w base G c N (P'++L++O++R') W'→Calls Tryz.prog 176 #[.slice (some ⟨G,0,none⟩) N c,a',m',b',.func (.func 91) #[] #[]] W' fun e w'=>e=.returned (.tuple #[])∧InS w base G c N (P'++mg L O++R') w')
 (W:World) (hS:InS w base G c N (P++A++B++R) W) :
 Calls Tryz.prog 176 #[.slice (some ⟨G,0,none⟩) N c,a,m,b,.func (.func 91) #[] #[]] W fun e w'=>e=.returned (.tuple #[])∧InS w base G c N (P++mg A B++R) w':=by
 have c2:=lh hS;have e3:=lh hA;have e4:=lh hB;have e5:=lh IH;have e6:Hid (∀z,z∈P∨z∈A∨z∈B∨z∈R → -1099511627776≤z.x∧z.x≤1099511627776):=lh fun z hz=>hx z (by simp only [ZF];rcases hz with h | h | h | h;exact .inl (.inl (.inl h));exact .inl (.inl (.inr h));exact .inl (.inr h);exact .inr h);obtain⟨D,a4⟩:∃M,P++A++B++R=M:=⟨_,rfl⟩;have c3:Hid (∀z∈D,-1099511627776≤z.x∧z.x≤1099511627776):=lh (by rw [←a4];exact hx);rw [a4] at c2;have c4:D.length=N:=by rw [←a4];exact hl
 have k6:b+R.length=N:=by rw [←hl];simp;omega
 obtain⟨d,i0⟩:∃h,(a+b) / 2=h:=⟨_,rfl⟩;obtain⟨g,i1⟩:∃n,d+m=n:=⟨_,rfl⟩;obtain⟨u,hu⟩:=nm (A.length);obtain⟨v,Q⟩:=nm (B.length);have k7:2*d≤a+b:=by omega
 have k8:a+b≤2*d+1:=by omega
 have k9:IntKind.i64.wrap ((m:Int)-(a:Int))=(u:Int):=by rw [ZH];omega
 have l0:((u:Int)==1)=false:=zN.2 (by omega);have l1:IntKind.i64.wrap ((b:Int)-(m:Int))=(v:Int):=by rw [ZH];omega
 have l2:((v:Int)==1)=false:=zN.2 (by omega);have i2:IntKind.i64.wrap ((a:Int)+(b:Int))=(a:Int)+b:=by rw [ZH];omega
 have i3:((a:Int)+(b:Int)) / 2=(d:Int):=by omega
 have l3:IntKind.i64.wrap ((d:Int)+(m:Int))=(g:Int):=by rw [ZH];omega
 have l4:d+m≤g:=by omega
 have l5:g≤d+m:=by omega
 have l6:a+u≤m:=by omega
 have l7:m≤a+u:=by omega
 have e7:m+v≤b:=by omega
 have e8:b≤m+v:=by omega
 have l8:2≤u:=by omega
 have l9:2≤v:=by omega
 have c5:=lh a4;have HA:=lh ha;have HU:=lh hu;have HV:=lh Q;have i4:=lh hl;obtain⟨H,b9⟩:∃s,(if d<m then g-b else a)=s:=⟨_,rfl⟩;obtain⟨I,c0⟩:∃s,(if d<m then d else m)=s:=⟨_,rfl⟩;have HS:=lh b9;have HR:=lh c0;have i5:a≤H∧H≤I∧I≤m∧I≤d∧g≤b+H:=by rw [←b9,←c0];split <;> omega
 have f0:(H=a∨H+b=g)∧(I=m∨I=d):=by rw [←b9,←c0];split <;> omega
 obtain⟨q1,q2,q3,q4,q5⟩:=i5;have i6:=lh f0;clear hS hl hx hA hB a4 ha hm hb IH h8 h9 hu Q i0 i1 b9 c0 f0;go_enter Tryz.func176,Tryz.ntmps176;go_upto_if 140 with fail;go_cut [20,21] (fun u20 u21 C=>u20=.int .i64 H∧u21=.int .i64 I∧C=W)
 case first=>as_aux_lemma =>
  by_cases S:d<m
  ·have hd:decide ((d:Int)<(m:Int))=true:=zQ (by omega);have m0:IntKind.i64.wrap ((g:Int)-(b:Int))=((g-b:Nat):Int):=(by rw [ZH];omega);have HC:=lh S;clear S;go_wp2;go_meet
   case rel=>exact⟨by rw [←HS.out,Zg HC.out],by rw [←HR.out,Zg HC.out],rfl⟩
  ·have hd:decide ((d:Int)<(m:Int))=false:=zP (by omega);have HC:=lh S;clear S;go_wp2;go_meet
   case rel=>exact⟨by rw [←HS.out,Zf HC.out],by rw [←HR.out,Zf HC.out],rfl⟩
 case rest =>
  obtain⟨e7,e8,hw⟩:=hcut;subst e7;subst e8;subst hw;obtain⟨p,hp⟩:=nm (g-1);have m1:p+1≤g:=(by omega);have m2:g≤p+1:=(by omega);have m3:IntKind.i64.wrap ((g:Int)-1)=(p:Int):=(by rw [ZH];omega);clear hp;go_wp2;go_loopw [20,21,23] (fun u20 u21 _ C=>∃s r:Nat,u20=.int .i64 s∧u21=.int .i64 r∧H≤s∧s≤r∧r≤I∧(s=H∨∃x y,A[s-1-a]? = some x∧B[g-s-m]? = some y∧x.x≤y.x)∧(r=I∨∃x y,A[r-a]? = some x∧B[p-r-m]? = some y∧y.x<x.x)∧InS w base G c N D C) (fun u20 u21 _ _=>(intOf u21).toNat-(intOf u20).toNat)
  case atStart=>exact⟨H,I,rfl,rfl,zT _,q2,zT _,.inl rfl,.inl rfl,c2.out⟩
  case round =>
   obtain⟨i,j,rfl,rfl,f1,m4,f2,f3,f4,f5⟩:=hrel;have c1:=lh f5;have c6:=lh f3;have c7:=lh f4;clear f5 f3 f4 c2;by_cases i7:i<j
   ·as_aux_lemma =>
    obtain⟨h,hh⟩:=nm ((i+j) / 2);have i8:i≤h∧h<j:=(by rw [←hh];exact half_bd i j i7);obtain⟨q,hq⟩:=nm (p-h);have m5:m≤q∧q<b∧q+h≤p∧p≤q+h:=(by omega);obtain⟨x,V⟩:∃x,A[h-a]? = some x:=⟨_,zF (by have:=HU.out;omega)⟩;obtain⟨y,f6⟩:∃y,B[q-m]? = some y:=⟨_,zF (by have:=HV.out;omega)⟩;have HX:=lh V;have HY:=lh f6;have i9:(i:Int)<(j:Int):=(by omega);have i2:IntKind.i64.wrap ((i:Int)+(j:Int))=((i+j:Nat):Int):=(by rw [ZH];omega);have i3:((i:Int)+(j:Int)) / 2=(h:Int):=(by omega);have m6:IntKind.i64.wrap ((p:Int)-(h:Int))=(q:Int):=(by rw [ZH];omega);have k:D[h]? = some x:=by
     have U:=yLo (P:=P) (R:=B++R) HX.out;have h2:=HA.out;rw [show P.length+(h-a)=h by omega] at U;rw [←c5.out];simpa using U
    have l:D[q]? = some y:=by
     have U:=yLo (P:=P++A) (R:=R) HY.out;have h2:=HA.out;have h3:=HU.out;rw [show (P++A).length+(q-m)=q by rw [zJ];omega] at U;rw [←c5.out];exact U
    have HH:=lh hh;have HQ:=lh hq;clear hh V f6 hq;have gx:D[q]? = some y:=l;have gy:D[h]? = some x:=k;have c8:Hid (∀W,InS w base G c N D W→W.cell? ⟨G,(q)*4,none⟩=some (.int .i64 y.a)∧W.cell? ⟨G,(q)*4+1,none⟩=some (.bool y.back)∧W.cell? ⟨G,(q)*4+2,none⟩=some (.int .i64 (-1))∧W.cell? ⟨G,(q)*4+3,none⟩=some (.int .i64 y.x) ∧
     W.cell? ⟨G,(h)*4,none⟩=some (.int .i64 x.a)∧W.cell? ⟨G,(h)*4+1,none⟩=some (.bool x.back)∧W.cell? ⟨G,(h)*4+2,none⟩=some (.int .i64 (-1))∧W.cell? ⟨G,(h)*4+3,none⟩=some (.int .i64 x.x)∧InS w base G c N D W):=lh fun W c9=>by
     obtain⟨_,_,a0,a1,a2,a3,_⟩:=yAn c4 c9.own (q) y gx;obtain⟨_,_,b0,X,Y,Z,_⟩:=yAn c4 c9.own (h) x gy;exact⟨a0,a1,a2,a3,b0,X,Y,Z,c9⟩
    have j0:=c3.out y (zS gx);have j3:=c3.out x (zS gy);have f7:Hid (∀W,InS w base G c N D W→Calls Tryz.prog 91 #[.agg #[y.a,y.back,.int .i64 (-1),y.x],.agg #[x.a,x.back,.int .i64 (-1),x.x]] W fun e w'=>e=.returned (.int .i64 (y.x-x.x))∧InS w base G c N D w') :=
     lh fun W h=>(yLl y x j0 j3 W).mono fun e w' ⟨U,h2⟩=>⟨U,h.below h2⟩
    obtain⟨a0,a1,a2,a3,b0,X,Y,Z,hN⟩:=c8.out wr c1.out;have j4:((q:Nat):Int)<(N:Int):=(by have:=(zG.1 gx).1;omega);have j5:((h:Nat):Int)<(N:Int):=(by have:=(zG.1 gy).1;omega);clear gx gy c1;go_upto_region 35 with fail
    go_region_held3 (fun W=>W.cell? ⟨G,(q)*4,none⟩=some (.int .i64 y.a)∧W.cell? ⟨G,(q)*4+1,none⟩=some (.bool y.back)∧W.cell? ⟨G,(q)*4+2,none⟩=some (.int .i64 (-1))∧W.cell? ⟨G,(q)*4+3,none⟩=some (.int .i64 y.x) ∧
     W.cell? ⟨G,(h)*4,none⟩=some (.int .i64 x.a)∧W.cell? ⟨G,(h)*4+1,none⟩=some (.bool x.back)∧W.cell? ⟨G,(h)*4+2,none⟩=some (.int .i64 (-1))∧W.cell? ⟨G,(h)*4+3,none⟩=some (.int .i64 x.x)∧InS w base G c N D W)
     ((refine c8.out _ ?_;(repeat (first | assumption | refine InS.drew ?_))))
     ((go_at_call 91;refine (f7.out _ (by (repeat (first | assumption | refine InS.drew ?_)))).mono ?_;rintro e w5 ⟨rfl,f8⟩))
    have f9:=lh f8;clear a0 a1 a2 a3 b0 X Y Z hN f8 f7 c8 j4 j5;clear l k;by_cases S:y.x<x.x
    ·have d0:decide (y.x-x.x<0)=true:=zQ (by omega);have j6:y.x-x.x<0:=(by omega);have d1:(!decide (y.x-x.x<0))=false:=(by rw [d0];rfl);have d2:=lh S;clear S;go_wp2
     all_goals (try (rename_i f;rw [d1] at f;cases f))
     go_roundw
     case rel=>exact⟨i,h,rfl,by go_num,f1,i8.1,by omega,c6.out,.inr ⟨x,y,HX.out,by rw [HQ.out];exact HY.out,d2.out⟩,f9.out⟩
     case measure=>simp [intOf];omega
    ·have d0:decide (y.x-x.x<0)=false:=zP (by omega);have j6:¬ y.x-x.x<0:=(by omega);have d1:(!decide (y.x-x.x<0))=true:=(by rw [d0];rfl);have d2:=lh (show x.x≤y.x by omega);have m7:IntKind.i64.wrap ((h:Int)+1)=((h+1:Nat):Int):=(by rw [ZH];omega);clear S;go_wp2
     all_goals (try (rename_i f;rw [d1] at f;cases f))
     go_roundw
     case rel=>exact⟨h+1,j,by go_num,rfl,by omega,by omega,f2,.inr ⟨x,y,by rw [show h+1-1-a=h-a by omega];exact HX.out,by rw [show g-(h+1)-m=q-m by omega];exact HY.out,d2.out⟩,c7.out,f9.out⟩
     case measure=>simp [intOf];omega
   ·as_aux_lemma =>
    obtain rfl:i=j:=(by omega);obtain⟨sa,g0⟩:∃s,i=a+s:=⟨i-a,by omega⟩;obtain⟨eb,g3⟩:∃x,d=i+x:=⟨d-i,by omega⟩;obtain⟨e,he⟩:=nm (m+eb);have g4:g=d+m:=(by omega);obtain⟨K,J,E,T,d3,d4,j7,j8,j9,k0,d5,d6,g5,g6,g7⟩:=sym_split A B e3.out e4.out u v a m b d g p H I i sa eb HU.out HV.out (by omega) (by omega) g4 (by omega) q1 q4 q3 q5 f1 f2 i6.out g0 g3 c6.out c7.out;have d7:=i4.out;have V:=e6.out;have d8:=e5.out;rw [d3,d4] at d7 V;rw [HU.out,HV.out] at d8;obtain⟨g8,g9,h0⟩:=sym_calls G c N base w P K J E T R a i m d e b (u+v) HA.out (by omega) (by omega) (by omega) (by omega) (by omega) (by omega) (by omega) (by omega) (by omega) hN d7 d5 d6 g5 g6 V d8;have k1:=lh g8;have k2:=lh g9;have k3:=lh h0;have h4:Hid (P++mg A B++R=P++mg K E++mg J T++R):=lh (by rw [g7,←zZ]);have k4:=lh d5;have k5:=lh d6;have d9:Hid (InS w base G c N (P++K++J++(E++T++R)) wr):=lh (by have h:=c1.out;rw [←c5.out,d3,d4] at h;simpa using h);have m8:IntKind.i64.wrap ((g:Int)-(i:Int))=(e:Int):=(by rw [ZH];omega);have i9:¬ (i:Int)<(i:Int):=(by omega);have z1:a+K.length≤i:=(by omega);have z2:i≤a+K.length:=(by omega);have z3:i+J.length≤m:=(by omega);have z4:m≤i+J.length:=(by omega);have z5:i+E.length≤d:=(by omega);have z6:d≤i+E.length:=(by omega);have z7:m+E.length≤e:=(by omega);have z8:e≤m+E.length:=(by omega);have z9:e+T.length≤b:=(by omega);have m9:b≤e+T.length:=(by omega);clear g8 g9 h0 g7 d5 d6 g5 g6 d3 d4 d7 c1 c6 c7 e3 e4 c3 e6 c4 e5 V d8 g0 g3 he g4 j7 j8 j9 k0;obtain⟨X,h5⟩:∃q,(decide (i<m)&&decide (m<e))=q:=⟨_,rfl⟩;have a5:=lh h5;clear h5;go_upto_region 39 with fail;go_cut [185] (fun v C=>v=.bool X∧C=wr)
    case first=>as_aux_lemma =>
     by_cases o:i<m
     ·have a6:decide (((i:Nat):Int)<((m:Nat):Int))=true:=zQ (by omega);have l:=lh (zQ o);have a7:decide (i<m)=true:=zQ o;have a8:((i:Nat):Int)<((m:Nat):Int):=(by omega);by_cases t:m<e
      ·have a9:decide (((m:Nat):Int)<((e:Nat):Int))=true:=zQ (by omega);have k:=lh (zQ t);have b4:decide (m<e)=true:=zQ t;have b5:((m:Nat):Int)<((e:Nat):Int):=(by omega);go_wp2;go_meet
       case rel=>exact⟨by rw [←a5.out,l.out,k.out];rfl,rfl⟩
      ·have a9:decide (((m:Nat):Int)<((e:Nat):Int))=false:=zP (by omega);have k:=lh (zP t);have b4:decide (m<e)=false:=zP t;have b5:¬ ((m:Nat):Int)<((e:Nat):Int):=(by omega);go_wp2;go_meet
       case rel=>exact⟨by rw [←a5.out,k.out,Bool.and_false],rfl⟩
     ·have a6:decide (((i:Nat):Int)<((m:Nat):Int))=false:=zP (by omega);have l:=lh (zP o);have a7:decide (i<m)=false:=zP o;have a8:¬ ((i:Nat):Int)<((m:Nat):Int):=(by omega);go_wp2;go_meet
      case rel=>exact⟨by rw [←a5.out,l.out];rfl,rfl⟩
    case rest =>
     obtain⟨Q,hw⟩:=hcut;subst Q;subst hw;go_upto_if 185 with fail;go_cut [] (fun C=>InS w base G c N (P++K++E++(J++T++R)) C)
     case first=>as_aux_lemma =>
      cases X with
      | true =>
        have f:=a5.out;simp only [ZU,ZX] at f;obtain⟨j1,j2⟩:=f;go_wp2_with (go_at_call 209;refine (k1.out j1 j2 _ d9.out).mono ?_;rintro e9 w9 ⟨rfl,b6⟩);go_meet
        case rel=>exact b6
      | false =>
        have f:=a5.out;simp only [Bool.and_eq_false_iff,decide_eq_false_iff_not] at f;go_wp2;go_meet
        case rel =>
         rcases f with f | f
         ·have F:J=[]:=ZE.1 (by omega);have h:=d9.out;rw [F] at h ⊢;simpa using h
         ·have F:E=[]:=ZE.1 (by omega);have h:=d9.out;rw [F] at h ⊢;simpa using h
     case rest =>
      have e1:=lh hcut;clear hcut;obtain⟨Y,h6⟩:∃q,(decide (a<i)&&decide (i<d))=q:=⟨_,rfl⟩;have b7:=lh h6;clear h6;go_upto_region 41 with fail;go_cut [199] (fun v C=>v=.bool Y∧C=wc)
      case first=>as_aux_lemma =>
       by_cases o:a<i
       ·have a6:decide (((a:Nat):Int)<((i:Nat):Int))=true:=zQ (by omega);have l:=lh (zQ o);have a7:decide (a<i)=true:=zQ o;have a8:((a:Nat):Int)<((i:Nat):Int):=(by omega);by_cases t:i<d
        ·have a9:decide (((i:Nat):Int)<((d:Nat):Int))=true:=zQ (by omega);have k:=lh (zQ t);have b4:decide (i<d)=true:=zQ t;have b5:((i:Nat):Int)<((d:Nat):Int):=(by omega);go_wp2;go_meet
         case rel=>exact⟨by rw [←b7.out,l.out,k.out];rfl,rfl⟩
        ·have a9:decide (((i:Nat):Int)<((d:Nat):Int))=false:=zP (by omega);have k:=lh (zP t);have b4:decide (i<d)=false:=zP t;have b5:¬ ((i:Nat):Int)<((d:Nat):Int):=(by omega);go_wp2;go_meet
         case rel=>exact⟨by rw [←b7.out,k.out,Bool.and_false],rfl⟩
       ·have a6:decide (((a:Nat):Int)<((i:Nat):Int))=false:=zP (by omega);have l:=lh (zP o);have a7:decide (a<i)=false:=zP o;have a8:¬ ((a:Nat):Int)<((i:Nat):Int):=(by omega);go_wp2;go_meet
        case rel=>exact⟨by rw [←b7.out,l.out];rfl,rfl⟩
      case rest =>
       obtain⟨Q,hw⟩:=hcut;subst Q;subst hw;go_upto_if 199 with fail;go_cut [] (fun C=>InS w base G c N (P++mg K E++(J++T++R)) C)
       case first=>as_aux_lemma =>
        cases Y with
        | true =>
          have f:=b7.out;simp only [ZU,ZX] at f;obtain⟨j1,j2⟩:=f;go_wp2_with (go_at_call 176;refine (k2.out j1 j2 _ e1.out).mono ?_;rintro e9 w9 ⟨rfl,b6⟩);go_meet
          case rel=>exact b6
        | false =>
          have f:=b7.out;simp only [Bool.and_eq_false_iff,decide_eq_false_iff_not] at f;go_wp2;go_meet
          case rel =>
           rcases f with f | f
           ·have F:K=[]:=ZE.1 (by omega);have h:=e1.out;rw [F] at h ⊢;simpa [mg] using h
           ·have F:E=[]:=ZE.1 (by omega);have h:=e1.out;rw [F] at h ⊢;rw [yKd K k4.out];simpa using h
       case rest =>
        have e2:=lh hcut;clear hcut;obtain⟨Z,h7⟩:∃q,(decide (d<e)&&decide (e<b))=q:=⟨_,rfl⟩;have b8:=lh h7;clear h7;go_upto_region 43 with fail;go_cut [213] (fun v C=>v=.bool Z∧C=wc)
        case first=>as_aux_lemma =>
         by_cases o:d<e
         ·have a6:decide (((d:Nat):Int)<((e:Nat):Int))=true:=zQ (by omega);have l:=lh (zQ o);have a7:decide (d<e)=true:=zQ o;have a8:((d:Nat):Int)<((e:Nat):Int):=(by omega);by_cases t:e<b
          ·have a9:decide (((e:Nat):Int)<((b:Nat):Int))=true:=zQ (by omega);have k:=lh (zQ t);have b4:decide (e<b)=true:=zQ t;have b5:((e:Nat):Int)<((b:Nat):Int):=(by omega);go_wp2;go_meet
           case rel=>exact⟨by rw [←b8.out,l.out,k.out];rfl,rfl⟩
          ·have a9:decide (((e:Nat):Int)<((b:Nat):Int))=false:=zP (by omega);have k:=lh (zP t);have b4:decide (e<b)=false:=zP t;have b5:¬ ((e:Nat):Int)<((b:Nat):Int):=(by omega);go_wp2;go_meet
           case rel=>exact⟨by rw [←b8.out,k.out,Bool.and_false],rfl⟩
         ·have a6:decide (((d:Nat):Int)<((e:Nat):Int))=false:=zP (by omega);have l:=lh (zP o);have a7:decide (d<e)=false:=zP o;have a8:¬ ((d:Nat):Int)<((e:Nat):Int):=(by omega);go_wp2;go_meet
          case rel=>exact⟨by rw [←b8.out,l.out];rfl,rfl⟩
        case rest =>
         obtain⟨Q,hw⟩:=hcut;subst Q;subst hw;go_upto_if 213 with fail;cases Z with
         | true =>
           have f:=b8.out;simp only [ZU,ZX] at f;obtain⟨j1,j2⟩:=f;go_wp2_with (go_at_call 176;refine (k3.out j1 j2 _ e2.out).mono ?_;rintro e9 w9 ⟨rfl,b6⟩)
           go_end0
           exact⟨rfl,by rw [h4.out];exact b6⟩
         | false =>
           have f:=b8.out;simp only [Bool.and_eq_false_iff,decide_eq_false_iff_not] at f;go_wp2
           go_end0
           refine⟨rfl,?_⟩;rw [←zZ,h4.out];rcases f with f | f
           ·have F:J=[]:=ZE.1 (by omega);have h:=e2.out;rw [F] at h ⊢;simpa [mg] using h
           ·have F:T=[]:=ZE.1 (by omega);have h:=e2.out;rw [F] at h ⊢;rw [yKd J k5.out];simpa using h
theorem sym_any (G c N base:Nat) (w:World) (i:N≤8388608):∀(k:Nat) (P A B R:List St) (a m b:Nat),P.length=a→a+A.length=m→m+B.length=b→1≤A.length→1≤B.length→A.length+B.length<k→(P++A++B++R).length=N→yBg A→yBg B→yAe (P++A++B++R) →
 ∀W,InS w base G c N (P++A++B++R) W→Calls Tryz.prog 176 #[.slice (some ⟨G,0,none⟩) N c,a,m,b,.func (.func 91) #[] #[]] W fun e w'=>e=.returned (.tuple #[])∧InS w base G c N (P++mg A B++R) w':=by
 intro k
 induction k with
 | zero=>intro P A B R a m b _ _ _ _ _ h;omega
 | succ k IH =>
   intro P A B R a m b j l n T U V d o p f W g;by_cases q:A.length=1
   ·obtain⟨x,rfl⟩:=List.length_eq_one_iff.1 q;have e:P++[x]++B++R=P++x::(B++R):=(by simp);rw [e] at d f g;exact symA_any G c N base w P B R x a m b j (by rw [←l];rfl) n d i p f W g
   ·by_cases r:B.length=1
    ·obtain⟨y,rfl⟩:=List.length_eq_one_iff.1 r;have e:P++A++[y]++R=P++A++y::R:=(by simp);rw [e] at d f g;exact symB_any G c N base w P A R y a m b j l (by omega) (by rw [←n];rfl) d i o f W g
    ·exact symG_any G c N base w P A B R a m b j l n (by omega) (by omega) d i o p f (fun s t u v z C D E F H I J X K L M O Q S=>IH s t u v z C D E F H I J (by omega) K L M O Q S) W g
inductive BlkS (k:Nat):List St→List St→Prop
 | last (L:List St):L.length≤k→BlkS k L (yAc L)
 | cons (A L M:List St):A.length=k→BlkS k L M→BlkS k (A++L) (yAc A++M)
theorem BlkS.len {k:Nat} {L M:List St} (h:BlkS k L M):M.length=L.length:=by
 induction h with
 | last L _=>exact yo L
 | cons A L M _ _ ih=>rw [zJ,zJ,yo,ih]
theorem BlkS.short {k:Nat} (c:1≤k) {L M:List St} (h:BlkS k L M) (a:L.length≤k):M=yAc L:=by
 cases h with
 | last _ _=>rfl
 | cons A L M hA hM =>
   rw [zJ] at a;have e:L=[]:=ZE.1 (by omega);have b:M=[]:=ZE.1 (by rw [hM.len,e];rfl);rw [e,b,zq,zq]
theorem BlkS.long {k:Nat} {L M:List St} (h:BlkS k L M) (c:k<L.length):∃A a b,L=A++a∧A.length=k∧M=yAc A++b∧BlkS k a b:=by
 cases h with
 | last _ h=>omega
 | cons A L M hA hM=>exact⟨A,L,M,rfl,hA,rfl,hM⟩
theorem BlkS.two {k:Nat} (g:1≤k) {L M:List St} (h:BlkS k L M) (i:k+k≤L.length):∃A B a b,L=A++B++a∧A.length=k∧B.length=k∧M=yAc A++yAc B++b∧BlkS k a b:=by
 obtain⟨A,c,n,rfl,d,rfl,f⟩:=h.long (by omega);rw [zJ] at i;by_cases j:k<c.length
 ·obtain⟨B,a,b,rfl,l,rfl,m⟩:=f.long j;exact⟨A,B,a,b,by simp,d,l,by simp,m⟩
 ·have e:=f.short g (by omega);exact⟨A,c,[],[],by simp,d,by omega,by rw [e];simp,.last [] (by simp)⟩
theorem yP5 {P A B R:List St} (h:yAe (P++A++R)) (b:∀z,z∈B→z∈A):yAe (P++B++R):=fun z a=>h z (by
 simp only [ZF] at a ⊢;rcases a with (a | a) | a
 ·exact .inl (.inl a)
 ·exact .inl (.inr (b z a))
 ·exact .inr a)
theorem yQw {P A R:List St} (h:yAe (P++A++R)):yAe (P++yAc A++R):=yP5 h fun z a=>(yCy A z).1 a
theorem yNq {P A B R:List St} (h:yAe (P++yAc A++yAc B++R)):yAe (P++yAc (A++B)++R):=by
 have a:yAe (P++(yAc A++yAc B)++R):=by simpa using h
 refine yP5 a fun z b=>?_;have:=(yCy (A++B) z).1 b;simp only [ZF,yCy] at this ⊢;exact this
theorem stableL_any (G c n base:Nat) (l:List St) (V:l.length=n) (L:n≤8388608) (W:yAe l) (w:World) (X:yN stE 91 w base (.slice (some ⟨G,0,none⟩) n c) l) (Y:base≤w.heap.size) :
 Calls Tryz.prog 133 #[.slice (some ⟨G,0,none⟩) n c,n,.func (.func 91) #[] #[]] w fun e w'=>e=.returned (.tuple #[]) ∧
  yN stE 91 w' base (.slice (some ⟨G,0,none⟩) n c) (yAc l)∧Below base w w':=by
 have a0:Hid (InS w base G c n l w):=lh ⟨X,Zc _ _,Y⟩;have N:=lh V;have HX:=lh W;clear X W V Y;go_enter Tryz.func133,Tryz.ntmps133;go_wp2;go_loopw [7,8] (fun u7 u8 E=>∃(a b:Nat) (D T:List St),u7=.int .i64 a∧u8=.int .i64 b∧a+20≤b∧b≤a+20∧D.length=a∧a+T.length=n∧yAe (D++T)∧(∀Z,BlkS 20 T Z→BlkS 20 l (D++Z))∧InS w base G c n (D++T) E) (fun _ u8 _=>n+20-(intOf u8).toNat)
 case atStart=>exact⟨0,20,[],l,rfl,rfl,by omega,by omega,rfl,by rw [N.out];omega,HX.out,fun Z h=>h,a0.out⟩
 case round =>
  obtain⟨a,b,D,T,rfl,rfl,a1,a2,v,s,p,m,q⟩:=hrel;have o:=lh q;have x:=lh p;have t:=lh m;clear q p m a0;by_cases R:b≤n
  ·as_aux_lemma =>
   have O:(b:Int)≤(n:Int):=(by omega);have b0:IntKind.i64.wrap ((b:Int)+20)=((b+20:Nat):Int):=(by rw [ZH];omega);obtain⟨A,u⟩:=nm (T.take 20);obtain⟨y,a3⟩:∃A,T.drop 20=A:=⟨_,rfl⟩;have b1:T=A++y:=(by rw [←u,←a3,zw]);have b2:A.length=20:=(by rw [←u,za];omega);subst b1;rw [zJ] at s;clear u a3;have j:Hid (InS w base G c n (D++A++y) wr):=lh (by simpa using o.out);have d:Hid (yAe (D++A++y)):=lh (by simpa using x.out);have f:=lh (insP_any G c n base w D A y a b v (by omega) (by simp only [zJ];omega) L d.out wr j.out);clear o;go_wp2_with (go_at_call 175;refine f.out.mono ?_;rintro e P ⟨rfl,g⟩;have r:=lh g;clear g f);go_roundw
   case rel=>exact⟨b,b+20,D++yAc A,y,rfl,by go_num,by omega,by omega,by rw [zJ,yo];omega,by omega,yQw d.out,fun Z S=>by rw [zZ];exact t.out _ (.cons A y Z b2 S),r.out⟩
   case measure=>simp [intOf];omega
  ·have O:¬ (b:Int)≤(n:Int):=(by omega);have a4:(n:Int)<(b:Int):=(by omega);have j:Hid (InS w base G c n (D++T++[]) wr):=lh (by rw [zq];exact o.out);have d:Hid (yAe (D++T++[])):=lh (by rw [zq];exact x.out);have f:=lh (insP_any G c n base w D T [] a n v s (by simp only [zJ,zn];omega) L d.out wr j.out);have a5:Hid (BlkS 20 l (D++yAc T)):=lh (t.out _ (.last T (by omega)));have a6:Hid (yAe (D++yAc T)):=lh (by have:=yQw d.out;rw [zq] at this;exact this);clear o j d x t;go_wp2_with (go_at_call 175;refine f.out.mono ?_;rintro e P ⟨rfl,g⟩;have r:=lh g;clear g f);have a7:Hid (InS w base G c n (D++yAc T) P):=lh (by have:=r.out;rw [zq] at this;exact this);clear r;go_loopw [6,7,8,9] (fun u6 _ _ _ E=>∃(k:Nat) (M:List St),u6=.int .i64 k∧20≤k∧k≤16777216∧yAe M∧BlkS k l M∧InS w base G c n M E) (fun u6 _ _ _ _=>n-(intOf u6).toNat)
   case atStart=>exact⟨20,_,rfl,by omega,by omega,a6.out,a5.out,a7.out⟩
   case round =>
    obtain⟨k,M,rfl,b7,b8,p,m,q⟩:=hrel;have o:=lh q;have x:=lh p;have t:=lh m;have b9:M.length=n:=(by rw [m.len,N.out]);clear q p m a5 a6 a7 v s a1 a2 R O a4;by_cases c0:k<n
    ·as_aux_lemma =>
     have b3:(k:Int)<(n:Int):=(by omega);have c1:IntKind.i64.wrap (2*(k:Int))=((2*k:Nat):Int):=(by rw [ZH];omega);have c2:IntKind.i64.wrap ((k:Int)*2)=((2*k:Nat):Int):=(by rw [ZH];omega);go_wp2;go_loopw [7,8] (fun u7 u8 E=>∃(a b:Nat) (D T F:List St),u7=.int .i64 a∧u8=.int .i64 b∧a+2*k≤b∧b≤a+2*k∧a≤n∧D.length=a∧a+T.length=n∧a+F.length=n∧yAe (D++T)∧BlkS k F T∧(∀Z,BlkS (2*k) F Z→BlkS (2*k) l (D++Z))∧InS w base G c n (D++T) E) (fun _ u8 _=>n+2*k-(intOf u8).toNat)
     case atStart=>exact⟨0,2*k,[],M,l,rfl,by go_num,by omega,by omega,by omega,rfl,by omega,by rw [N.out];omega,x.out,t.out,fun Z h=>h,o.out⟩
     case round =>
      obtain⟨a,b,D,T,F,rfl,rfl,a1,a2,c3,v,s,a8,p,m,a9,q⟩:=hrel;have H:=lh q;have I:=lh p;have z:=lh m;have J:=lh a9;clear q p m a9 o x t;have c4:IntKind.i64.wrap ((a:Int)+(k:Int))=((a+k:Nat):Int):=(by rw [ZH];omega);by_cases R:b≤n
      ·as_aux_lemma =>
       have O:(b:Int)≤(n:Int):=(by omega);have b0:IntKind.i64.wrap ((b:Int)+((2*k:Nat):Int))=((b+2*k:Nat):Int):=(by rw [ZH];omega);have c5:IntKind.i64.wrap ((b:Int)+2*(k:Int))=((b+2*k:Nat):Int):=(by rw [ZH];omega);obtain⟨A,B,i,K,rfl,u,hB,rfl,C⟩:=z.out.two (by omega) (by omega);simp only [zJ,yo] at s a8;have c6:=C.len;have b4:=lh C;have j:Hid (InS w base G c n (D++yAc A++yAc B++K) wr):=lh (by simpa using H.out);have d:Hid (yAe (D++yAc A++yAc B++K)):=lh (by simpa using I.out);have f:=lh (sym_any G c n base w L (A.length+B.length+1) D (yAc A) (yAc B) K a (a+k) b v (by rw [yo,u]) (by rw [yo];omega) (by rw [yo];omega) (by rw [yo];omega) (by rw [yo,yo];omega) (by simp only [zJ,yo];omega) (yDl A) (yDl B) d.out wr j.out);clear H z I C j;go_wp2_with (go_at_call 176;refine f.out.mono ?_;rintro e P ⟨rfl,g⟩;have r:=lh g;clear g f);go_roundw
       case rel=>exact⟨b,b+2*k,D++yAc (A++B),K,i,rfl,by go_num,by omega,by omega,R,by rw [zJ,yo,zJ];omega,by omega,by omega,yNq d.out,b4.out,fun Z S=>by rw [zZ];exact J.out _ (.cons (A++B) i Z (by rw [zJ];omega) S),by rw [←isrt_mg];exact r.out⟩
       case measure=>simp [intOf];omega
      ·have O:¬ (b:Int)≤(n:Int):=(by omega);have a4:(n:Int)<(b:Int):=(by omega);by_cases hm:a+k<n
       ·as_aux_lemma =>
        have b5:((a+k:Nat):Int)<(n:Int):=(by omega);obtain⟨A,i,K,rfl,u,rfl,C⟩:=z.out.long (by omega);simp only [zJ,yo] at s a8;have Q:=C.short (by omega) (by omega);subst Q;rw [yo] at s;have j:Hid (InS w base G c n (D++yAc A++yAc i++[]) wr):=lh (by simpa using H.out);have d:Hid (yAe (D++yAc A++yAc i++[])):=lh (by simpa using I.out);have f:=lh (sym_any G c n base w L (A.length+i.length+1) D (yAc A) (yAc i) [] a (a+k) n v (by rw [yo,u]) (by rw [yo];omega) (by rw [yo];omega) (by rw [yo];omega) (by rw [yo,yo];omega) (by simp only [zJ,yo,zn];omega) (yDl A) (yDl i) d.out wr j.out);have U:Hid (BlkS (2*k) l (D++yAc (A++i))):=lh (J.out _ (.last (A++i) (by rw [zJ];omega)));have b6:Hid (yAe (D++yAc (A++i))):=lh (by have:=yNq d.out;rw [zq] at this;exact this);clear H z I C j J d;go_wp2_with (go_at_call 176;refine f.out.mono ?_;rintro e P ⟨rfl,g⟩;have r:=lh g;clear g f);go_roundw
        case rel=>exact⟨2*k,_,by go_num,by omega,by omega,b6.out,U.out,by have h:=r.out;rw [isrt_mg,zq] at h;exact h⟩
        case measure=>simp [intOf];omega
       ·as_aux_lemma =>
        have b5:¬ ((a+k:Nat):Int)<(n:Int):=(by omega);have c7:(n:Int)≤((a+k:Nat):Int):=(by omega);have Q:=z.out.short (by omega) (by omega);have U:Hid (BlkS (2*k) l (D++T)):=lh (by rw [Q];exact J.out _ (.last F (by omega)));clear z J Q;go_wp2;go_roundw
        case rel=>exact⟨2*k,_,by go_num,by omega,by omega,I.out,U.out,H.out⟩
        case measure=>simp [intOf];omega
    ·have b3:¬ (k:Int)<(n:Int):=(by omega);have c8:(n:Int)≤(k:Int):=(by omega);have hM:=t.out.short (by omega) (by rw [N.out];omega);have HM:=lh hM;clear hM;go_wp2
     go_end0
     exact⟨rfl,by rw [←HM.out];exact o.out.own,o.out.bel⟩
theorem yN2 (G c n base:Nat) (l:List St) (a:l.length=n) (f:n≤8388608) (b:yAe l) (w:World) (d:yN stE 91 w base (.slice (some ⟨G,0,none⟩) n c) l) (g:base≤w.heap.size) :
 Calls Tryz.prog 90 #[.slice (some ⟨G,0,none⟩) n c,.func (.func 91) #[] #[]] w fun e w'=>e=.returned (.tuple #[]) ∧
  yN stE 91 w' base (.slice (some ⟨G,0,none⟩) n c) (yJu (n-1) 1 l)∧Below base w w':=by
 have h:=lh (stableL_any G c n base l a f b w d g);have i:Hid (yJu (n-1) 1 l=yAc l):=lh (by rw [←a];exact yQf l);clear d b a;go_enter Tryz.func90,Tryz.ntmps90;go_wp2_with (go_at_call 133;refine h.out.mono ?_;rintro e m ⟨rfl,j,k⟩)
 go_end0
 exact⟨rfl,by rw [i.out];exact j,k⟩
theorem stops_any (b:Nat) (R:LaidR) (fin:Int) (w:World) (F:yDs w b R) (a7:R.base<256) (a8:∀p∈R.l,p.level<256) (hn:R.l.length≤2097152) (a9:(rawS R fin).length≤8388608) (b0:0<(rawS R fin).length) (H:yAe (rawS R fin)) :
 Calls Tryz.prog 47 #[.pointer (some ⟨b,0,none⟩),.int .i8 fin] w fun e w'=>∃G c,e=.returned (.slice (some ⟨G,0,none⟩) (rawS R fin).length c) ∧
  yN stE 91 w' w.heap.size (.slice (some ⟨G,0,none⟩) (rawS R fin).length c) (stopsI R fin)∧Below w w w':=by
 obtain⟨f,I⟩:=nm (yDm fin);have J:rawS R fin=stopsF R f R.l 0:=by unfold rawS;rw [I]
 have L:stopsI R fin=yJu ((rawS R fin).length-1) 1 (rawS R fin):=rfl;obtain⟨N,hN⟩:=nm (rawS R fin);rw [hN] at a9 b0 H J L ⊢;have c2:=lh L;have c3:=lh J;have c4:=lh H;have O:=lh I;obtain⟨P,Q,va,vc,x,g2,g3⟩:=id F;obtain⟨n,c5⟩:=nm (R.l.length);have c6:=x.lt;rw [c5] at x;have H1:=lh x;have H2:=lh g2;clear hN L J H I x g2 g3;go_enter Tryz.func47,Tryz.ntmps47;go_upto_region 2 with fail;obtain⟨h0,y,T,z⟩:=yBq w (.cells #[.pointer (some ⟨b,0,none⟩)] 87) (.cells #[.slice none 0 0] 86);generalize (w.alloc _).alloc _=W1 at h0 y T z ⊢;obtain⟨d,i⟩:=nm (w.heap.size);rw [i] at h0 y z c6 ⊢;have b1:∀f,AdS w d b f [] (W1.alloc (.cells #[f] 4)):=fun f=>by
  have U:=(Zc W1.heap.size W1).alloc (zT _) (.cells #[f] 4);have b2:=zL W1 (.cells #[f] 4);rw [z] at b2;exact⟨(U.block d (by omega)).trans h0,b2,⟨none,0,(U.block (d+1) (by omega)).trans y,yN.nil _ _ _⟩,(i▸T).trans (U.mono (by omega))⟩
 have A:=lh b1;clear h0 y T b1;go_cut [6] (fun v V=>v=.pointer (some ⟨d+2,0,none⟩)∧AdS w d b f [] V)
 case first =>
  have d8:W1.heap.size=d+2:=z;by_cases X:fin=2
  ·subst X;have j:f=true:=(by rw [←O.out];rfl);subst j;go_wp2;go_meet;exact⟨rfl,A.out _⟩
  ·have e2:(fin==2)=false:=(by rw [zN];exact X);by_cases Y:fin=3
   ·subst Y;have j:f=true:=(by rw [←O.out];rfl);subst j;go_wp2;go_meet;exact⟨rfl,A.out _⟩
   ·have e3:(fin==3)=false:=(by rw [zN];exact Y);have j:f=false:=(by rw [←O.out];unfold yDm;rw [zP X,zP Y];rfl);subst j;go_wp2;go_meet;exact⟨rfl,A.out _⟩
 case rest =>
  obtain⟨rfl,g⟩:=hcut;have HA:=lh g;have b3:Hid (∀W,Below d w W→W.cell? ⟨b,0,none⟩=some (.slice P n Q)∧W.cell? ⟨b,3,none⟩=some (.int .i64 R.tt)):=lh fun W Z=>by
   have h:=(H1.out.below Z (by omega)).cells;exact⟨h.1,h.2.2.2.1⟩
  obtain⟨d0,_⟩:=b3.out wc g.bel;have k0:wc.cell? ⟨d,0,none⟩=some (.pointer (some ⟨b,0,none⟩)):=ce g.bw;clear g A;go_upto_block 0 with fail;clear k0 d0;go_wp2;go_loopw [8,9,22] (fun _ _ u22 V=>∃(k:Nat) (M:List St),k≤n∧u22=.int .i64 k∧M.length≤2*k∧N=M++stopsF R f (R.l.drop k) k∧AdS w d b f M V) (fun _ _ u22 _=>n-(intOf u22).toNat)
  case atStart=>exact⟨0,[],zd _,rfl,zT _,by rw [ZZ];exact c3.out,HA.out⟩
  case round =>
   obtain⟨k,M,hk,rfl,d9,b4,g⟩:=hrel;have m:=lh g;have a0:=lh b4;clear b4 HA;by_cases e4:k<n
   ·obtain⟨p,hp⟩:∃p,R.l[k]? = some p:=⟨_,zF (by omega)⟩;have b5:R.l.drop k=p::R.l.drop (k+1):=yAu hp;have o:N=(M++yA7 R f k p.a)++stopsF R f (R.l.drop (k+1)) (k+1):=(by rw [a0.out,b5,stopsF,zZ]);have B:=lh o;have b6:Below w w wr:=i▸g.bel;obtain⟨G,eG,c7,y0,y1,y2,y3,y4,y5,y6,y7,y8,y9⟩:=yLh (H2.out.keep b6) k p hp;subst eG;have e5:=yJ7 R f k p.a;have e6:(k:Int)<(n:Int):=(by omega);have e7:IntKind.i64.wrap ((k:Int)+1)=(k:Int)+1:=(by rw [ZH];omega);have r:Hid (∀W,AdS w d b f M W→Calls Tryz.prog 89 #[k,p.a,.pointer (some ⟨d,0,none⟩),.pointer (some ⟨d+2,0,none⟩),.pointer (some ⟨d+1,0,none⟩)] W fun e w'=>e=.returned (.tuple #[])∧AdS w d b f (M++yA7 R f k p.a) w') :=
     lh fun W h=>add_any w d b R f M k p.a i F (by omega) a7 a8 hn (by omega) W h
    clear g o b5 hp b6;go_upto_region 7 with fail;have a1:=qal wr (.cells #[p.a,p.size,p.c0,p.c1,.int .u8 p.level,p.became,p.shown,p.wide,p.e0,p.e1] 98);have a2:=zL wr (.cells #[p.a,p.size,p.c0,p.c1,.int .u8 p.level,p.became,p.shown,p.wide,p.e0,p.e1] 98);have a3:=m.out.below a1;generalize wr.alloc _=W7 at a1 a2 a3 ⊢;have z0:=qc1 a2;have C:=lh (r.out W7 a3);clear y0 y1 y2 y3 y4 y5 y6 y7 y8 y9 a1 a2 a3 r;go_wp2_with (go_at_call 89;refine C.out.mono ?_;rintro e s ⟨rfl,t⟩);go_roundw
    case rel=>exact⟨k+1,M++yA7 R f k p.a,by omega,by go_num,by rw [zJ];omega,B.out,t⟩
    case measure=>simp [intOf];omega
   ·obtain rfl:k=n:=(by omega);have o:N=M++yA7 R f k R.tt:=(by rw [a0.out,ql (by omega),stopsF]);have B:=lh o;have r:Hid (∀W,AdS w d b f M W→Calls Tryz.prog 89 #[k,R.tt,.pointer (some ⟨d,0,none⟩),.pointer (some ⟨d+2,0,none⟩),.pointer (some ⟨d+1,0,none⟩)] W fun e w'=>e=.returned (.tuple #[])∧AdS w d b f N w') :=
     lh fun W h=>B.out▸add_any w d b R f M k R.tt i F (by omega) a7 a8 hn (by omega) W h
    clear g o a0;go_upto_region 9 with fail;obtain⟨S,a4,b7⟩:∃S:World→Prop,(∀W:World,AdS w d b f M W∨AdS w d b f N W→S W)∧(∀W:World,S W→AdS w d b f M W∨AdS w d b f N W):=⟨fun W=>AdS w d b f M W∨AdS w d b f N W,fun _ h=>h,fun _ h=>h⟩;have a5:=lh a4;have c8:Nonempty (WIn S):=⟨⟨_,a4 _ (.inl m.out)⟩⟩;have D:∀q:WIn S,q.w.cell? ⟨d,0,none⟩=some (.pointer (some ⟨b,0,none⟩))∧q.w.cell? ⟨b,0,none⟩=some (.slice P k Q)∧q.w.cell? ⟨b,3,none⟩=some (.int .i64 R.tt):=fun q=>by
     rcases b7 _ q.h with h | h <;> exact⟨by simp [World.cell?,h.bw],b3.out _ h.bel⟩
    have c9:∀q:WIn S,q.w.cell? ⟨d,0,none⟩=some (.pointer (some ⟨b,0,none⟩)):=fun q=>(D q).1;have d1:∀q:WIn S,q.w.cell? ⟨b,0,none⟩=some (.slice P k Q):=fun q=>(D q).2.1;have d2:∀q:WIn S,q.w.cell? ⟨b,3,none⟩=some (.int .i64 R.tt):=fun q=>(D q).2.2;clear a4 b7 D;refine yBo S [([0,1,2,3,4,5,6,7,8,9],10)] [] (by kernel_rfl) (by kernel_rfl) (a5.out _ (.inl m.out.drew)) ?_;simp only [yIb,yS,zD,zE,zC,zB,zA];show wpQuiet _ _ _ _ [_,_,_,_,_,_,_,_,_,_] _
    repeat (go_big_quiet_step (fail))
    refine Zt ?_;intro K hK;have b8:=lh hK;have C:=lh (r.out wr.drew m.out.drew);clear hK;show wpList _ _ _ [_] _ _;go_wp2_with (go_at_call 89;refine C.out.mono ?_;rintro e s ⟨rfl,t⟩);have a6:=lh t;refine b8.out _ _ (a5.out _ (.inr t)) ?_;clear b8 C r a5 c9 d1 d2 c8 t m B;refine Zt ?_;refine NoPanic.normal ?_;obtain⟨a,c,E,r2⟩:=a6.out.row;obtain⟨G,eG,hG,c7,_⟩:=yB2 (n:=N.length) r2 b0;subst eG;have k1:=qc1 E;have e8:d+1<s.heap.size:=(zH.1 E).1;have d3:d+3≤s.heap.size:=(by omega);have d4:=lh (yN2 G c N.length (d+3) N rfl a9 c4.out s r2 d3);have d5:Hid (∀u,Below (d+3) s u→u.cell? ⟨d+1,0,none⟩=some (.slice (some ⟨G,0,none⟩) N.length c)):=lh fun u Z=>by
     have:=(Z.block (d+1) (by omega)).trans E;simp [World.cell?,this]
    have d6:=lh a6.out.bel;clear E r2 a6;go_wp2_with (go_at_call 90;refine d4.out.mono ?_;rintro e u ⟨rfl,d7,b9⟩;have k9:=d5.out u b9);go_ret;exact⟨G,c,rfl,by rw [c2.out];exact d7.low (by omega),i▸d6.out.trans (b9.mono (by omega))⟩
def caE:Enc St:=⟨fun c=>[c.a,c.back,.int .i64 (-1)],3,fun _=>rfl⟩
theorem Tryz.info_caret:(Tryz.prog.info? 33).map (fun i=>(i.zero,i.size,i.bytes))=some (some (.agg #[.int .i64 0,false,.int .i64 0]),3,24):=by kernel_rfl
theorem Stops_any (s:ByteArray) (hs:s.size≤2097152) (g i y o fin r d:Int) (t m f:Bool) (w:World) (hT:T8 w) (hD:DB w) (X:∀p∈lay2 s d m f g i,p.level<256)
 (L:(rawS (layI s r d t m f g i o) fin).length≤8388608) (M:0<(rawS (layI s r d t m f g i o) fin).length) (Y:yAe (rawS (layI s r d t m f g i o) fin)) :
 Calls Tryz.prog 11 #[s,yDq g i y o fin,yEq r d t m f] w fun e w'=>∃a c,
  e=.returned (.slice a (stopsI (layI s r d t m f g i o) fin).length c)∧yN caE 33 w' w.heap.size (.slice a (stopsI (layI s r d t m f g i o) fin).length c) (stopsI (layI s r d t m f g i o) fin)∧Below w w w':=by
 obtain⟨i5,c5,c6,c7,c8⟩:=info_parts (Tryz.info_caret);have Z:=yO6 s d f;have a0:=layL_lv s r d t m f g i o X;have b6:=yH7 s r d t m f g i o hs;have a1:=lh (fun (W:World) (h:Below w w W)=>yQ8 s hs g i y o fin r d t m f W (hT.below rfl h) (hD.below h) X);obtain⟨R,N⟩:=nm (layI s r d t m f g i o);have eL:layL s r d t m f g i o=R.l:=Zb LaidR.l N;have eb:yJx s d f=R.base:=Zb LaidR.base N;rw [N] at a1 L M Y ⊢;rw [eL] at a0 b6;rw [eb] at Z;have a2:=lh (fun (b:Nat) (W:World) (hL:yDs W b R)=>stops_any b R fin W hL Z a0 b6 L M Y);have a3:(stopsI R fin).length=(rawS R fin).length:=by unfold stopsI;rw [yMe]
 obtain⟨Q,O⟩:=nm (stopsI R fin);rw [←a3,O] at a2;rw [←a3,O] at L M;rw [O];clear N eL eb a0 X hT hD Y a3 O Z;go_enter Tryz.func11,Tryz.ntmps11;unfold yDq;go_upto_region 2 with fail;obtain⟨h0,A,P,b7⟩:=yBq w (.cells #[g,i,.int .u8 y,o,.int .i8 fin] 24) (.cells #[r,t,.int .i8 d,m,f] 26);generalize (w.alloc _).alloc _=W1 at h0 A P b7 ⊢;obtain⟨B,hB⟩:=nm (w.heap.size);have b8:=lh P;have a4:=lh (a1.out W1.drew P.drew);rw [hB] at h0 A b7 ⊢;clear P a1;unfold yDq at a4;obtain⟨S,a5,v⟩:∃S:World→Prop,(∀W:World,W.heap[B]? = some (.cells #[g,i,.int .u8 y,o,.int .i8 fin] 24 (0,0))→W.heap[B+1]? = some (.cells #[r,t,.int .i8 d,m,f] 26 (0,0))→S W) ∧
  (∀W:World,S W→W.heap[B]? = some (.cells #[g,i,.int .u8 y,o,.int .i8 fin] 24 (0,0))∧W.heap[B+1]? = some (.cells #[r,t,.int .i8 d,m,f] 26 (0,0))):=⟨fun W=>_∧_,fun _ h h'=>⟨h,h'⟩,fun _ h=>h⟩
 have T:=lh a5;have c9:Nonempty (WIn S):=⟨⟨_,a5 _ h0 A⟩⟩;have b0:∀q:WIn S,q.w.cell? ⟨B,0,none⟩=some (.int .i64 g):=fun q=>by simp [World.cell?,(v _ q.h).1]
 have b1:∀q:WIn S,q.w.cell? ⟨B,1,none⟩=some (.int .i64 i):=fun q=>by simp [World.cell?,(v _ q.h).1]
 have b2:∀q:WIn S,q.w.cell? ⟨B,2,none⟩=some (.int .u8 y):=fun q=>by simp [World.cell?,(v _ q.h).1]
 have b3:∀q:WIn S,q.w.cell? ⟨B,3,none⟩=some (.int .i64 o):=fun q=>by simp [World.cell?,(v _ q.h).1]
 have b4:∀q:WIn S,q.w.cell? ⟨B,4,none⟩=some (.int .i8 fin):=fun q=>by simp [World.cell?,(v _ q.h).1]
 have l0:∀q:WIn S,q.w.cell? ⟨B+1,0,none⟩=some (.int .i64 r):=fun q=>by simp [World.cell?,(v _ q.h).2]
 have l1:∀q:WIn S,q.w.cell? ⟨B+1,1,none⟩=some (.bool t):=fun q=>by simp [World.cell?,(v _ q.h).2]
 have l2:∀q:WIn S,q.w.cell? ⟨B+1,2,none⟩=some (.int .i8 d):=fun q=>by simp [World.cell?,(v _ q.h).2]
 have l3:∀q:WIn S,q.w.cell? ⟨B+1,3,none⟩=some (.bool m):=fun q=>by simp [World.cell?,(v _ q.h).2]
 have l4:∀q:WIn S,q.w.cell? ⟨B+1,4,none⟩=some (.bool f):=fun q=>by simp [World.cell?,(v _ q.h).2]
 have H0:=lh h0;have H1:=lh A;clear a5 v;refine yBo S [([0,1,2,4,5,8],3),([],6)] [7] (by kernel_rfl) (by kernel_rfl) (T.out _ h0 A) ?_;simp only [yIb,yS,zD,zE,zC,zB,zA];clear h0 A;show wpQuiet _ _ _ _ [_,_,_,_,_,_] _
 repeat (go_big_quiet_step (fail))
 refine Zt ?_;intro K D;have E:=lh D;clear D;show wpList _ _ _ [_] _ _;go_wp2_with (go_at_call 46;refine a4.out.mono ?_;rintro e U ⟨b,rfl,d0,e7,F⟩);have a6:=lh (b8.out.drew.trans (F.mono b8.out.size));have e0:=(F.block B (by show B<W1.heap.size;omega)).trans H0.out;have e1:=(F.block (B+1) (by show B+1<W1.heap.size;omega)).trans H1.out;have b9:=lh (a2.out b U d0);have e8:B+2≤U.heap.size:=by have:=F.size;have h:W1.drew.heap.size=W1.heap.size:=rfl;omega
 refine E.out _ _ (T.out _ e0 e1) ?_;clear E F a4 a2;show wpQuiet _ _ _ _ [] _;refine Zt ?_;intro K D;have E:=lh D;clear D;show wpList _ _ _ [_] _ _;go_wp2_with (go_at_call 47;refine b9.out.mono ?_;rintro e u ⟨G,c,rfl,c0,H⟩);have g0:=(H.block B (by omega)).trans e0;have g1:=(H.block (B+1) (by omega)).trans e1;refine E.out _ _ (T.out _ g0 g1) ?_;have d1:=lh (a6.out.trans (H.mono (by omega)));have d2:=lh c0;have e9:U.heap.size≤u.heap.size:=H.size;clear E b9 T b0 b1 b2 b3 b4 l0 l1 l2 l3 l4 e0 e1 g0 g1 H c0;show wpQuiet _ _ _ _ [_] _
 repeat (go_big_quiet_step (fail))
 refine Zt ?_;refine NoPanic.normal ?_;obtain⟨n,I⟩:=nm (Q.length);clear c9;have d3:∀k,k<n→∃q,Q[k]? = some q:=fun k hk=>⟨_,zF (by omega)⟩;have c1:∀W,Below u u W→yN stE 91 W U.heap.size (.slice (some ⟨G,0,none⟩) n c) Q:=fun W z=>by have:=d2.out.keep z;rw [I] at this;exact this
 have d4:=lh c1;clear c1;rw [I] at L M;rw [I];go_upto_block 0 with fail;go_wp2;go_loopw [7,9,18] (fun u7 _ u18 wx=>∃(k:Nat) (a:Option Addr) (C:Nat),k≤n∧u18=.int .i64 k∧u7=.slice a k C∧yN caE 33 wx u.heap.size (.slice a (Q.take k).length C) (Q.take k)∧Below u u wx) (fun _ _ u18 _=>n-(intOf u18).toNat)
 case atStart=>exact⟨0,none,0,zd _,by rfl,rfl,yN.nil _ _ _,Zc _ _⟩
 case round =>
  obtain⟨k,a,C,hk,rfl,rfl,hO,z⟩:=hrel;have V:=lh hO;have HB:=lh z;clear hO;by_cases c2:k<n
  ·obtain⟨q,hq⟩:=d3 k c2;have a7:(Q.take k).length=k:=(by rw [za];omega);have d5:Q.take (k+1)=Q.take k++[q]:=yE2 hq;obtain⟨_,f0,y0,y1,y2,y3,_⟩:=yAn I (d4.out wr z) k q hq;have f1:(k:Int)<(n:Int):=(by omega);have f2:IntKind.i64.wrap ((k:Int)+1)=(k:Int)+1:=(by rw [ZH];omega);have d6:u.heap.size≤wr.heap.size:=z.size;rw [a7] at V;clear z hq;go_upto_region 5 with fail;have J:=qal wr (.cells #[q.a,q.back,.int .i64 (-1),q.x] 91);have a8:=zL wr (.cells #[q.a,q.back,.int .i64 (-1),q.x] 91);generalize wr.alloc _=W5 at J a8 ⊢;obtain⟨z0,z1,z2⟩:=qc3 a8;have a9:W5.ownsRow u.heap.size 33 3 (.slice a k C) k ((Q.take k).flatMap caE.enc):=by
    have h:=V.out.keep J;unfold yN at h;rw [a7] at h;exact h
   have d7:=lh a9;have d8:=lh (HB.out.trans (J.mono d6));have f3:=J.size;have d9:=lh (qP a9 (.cells #[q.a,q.back,.int .i64 (-1)] 33));clear J a8 a9 y0 y1 y2 y3;go_wp2_with (at_builtin;refine Zy _ rfl _ _ 27 rfl u.heap.size 33 i5 _ 3 24 Tryz.underlying27 c5 c6 c7 c8 rfl (by decide) _ k _ rfl d9.out ⟨W5,0,none⟩ 1 1 [q.a,q.back,.int .i64 (-1)] rfl rfl (newS _ _ _) (by simp [Value.oneCell']) (by unfold maxLen;omega) (by omega) (by simp;omega) ?_;intro v' w8 c3 b5 _ _);replace b5:(W5.alloc (.cells #[q.a,q.back,.int .i64 (-1)] 33)).grownBy w8 (Value.slice a k C).ownBlock:=b5;have e2:=ZW d7.out;have e3:Below u u w8:=(d8.out.alloc (by omega) _).grown b5 (by simp;omega) (fun j hj=>(e2 j hj).1);obtain⟨a',c4,e4,_,_⟩:=yP c3;subst e4;have e5:yN caE 33 w8 u.heap.size (.slice a' (Q.take (k+1)).length c4) (Q.take (k+1)):=by
    unfold yN;rw [d5,zJ,a7,zU,zV];exact c3
   go_roundw
   case rel=>exact⟨k+1,a',c4,by omega,by go_num,rfl,e5,e3⟩
   case measure=>simp [intOf];omega
  ·obtain rfl:k=n:=(by omega);have e6:Q.take k=Q:=qU (by omega);rw [e6] at V;clear z c2;go_wp2;go_ret;exact⟨a,C,by rw [I];rfl,V.out.low (by have:=a6.out.size;omega),d1.out.trans (HB.out.mono (by have:=a6.out.size;omega))⟩
end
end Go.Proofs.YtncplikdjcmoeaaGreatDoor
