/- Lemmas, part 8: no further condition than each states. -/
import Derived.Test.YtncplikdjcmoeaaGreatDoorQ07
namespace Go.Proofs.YtncplikdjcmoeaaGreatDoor
set_option linter.unusedVariables false
set_option linter.unusedSimpArgs false
set_option maxRecDepth 100000
set_option maxHeartbeats 4000000
section
open Go.RowKit
theorem Tryz.info_u8:(Tryz.prog.info? 5).map (fun i=>(i.zero,i.size,i.bytes))=some (some (.int .u8 0),1,1):=by kernel_rfl
def yg (l:List Nat):List Int:=l.map fun (x:Nat)=>(x:Int)
theorem stV_f0 (s:LSt) (w:World):Sem.run Tryz.prog (Instr.field 253 (stV s) 0) w=.ok (.int .u8 s.level) w:=by kernel_rfl
theorem lay_opn (P:LPile) (a:Bool) (o:Int) (b:Bool):(P.lay a o b).opn=P.opn∧(P.lay a o b).deep=P.deep:=by unfold LPile.lay;split <;> exact⟨rfl,rfl⟩
theorem yE5 {a:World} {B p d:Nat} {P:LPile} {b:Bool} (h:yw a B p d (P.lay b (-1) true)) :
 a.cell? ⟨p,1,none⟩=some (.int .i64 P.opn)∧a.cell? ⟨p,2,none⟩=some (.int .i64 P.deep)∧a.frozen? ⟨p,1,none⟩=false∧a.frozen? ⟨p,2,none⟩=false:=by
 obtain⟨N,cap,c,_⟩:=h;rw [(lay_opn P b (-1) true).1,(lay_opn P b (-1) true).2] at c;obtain⟨_,e,f,_,fr,_⟩:=yBs c;exact⟨e,f,fr 1,fr 2⟩
theorem iso_true {a:World} {B p b:Nat} {P:LPile} {c:Bool} (h:yw a B p b (P.lay c (-1) true)) :
 yw (a.setCell ⟨p,1,none⟩ (.int .i64 ((P.opn:Int)+1))) B p b { P.lay c (-1) true with opn:=P.opn+1 }:=by
 obtain⟨N,cap,e,f,g,i,d,j⟩:=h;exact⟨N,cap,by simpa using pile_set1 (v:=.int .i64 ((P.opn:Int)+1)) e,yAr f d,g,i,d,j⟩
theorem iso_false {b:World} {B p c:Nat} {P:LPile} {a:Bool} (h:yw b B p c (P.lay a (-1) true)) (f:P.room a=false) :
 yw (b.setCell ⟨p,2,none⟩ (.int .i64 ((P.deep:Int)+1))) B p c { P with deep:=P.deep+1 }:=by
 have e:P.lay a (-1) true=P:=by unfold LPile.lay;rw [f];rfl
 rw [e] at h;obtain⟨N,cap,g,i,j,k,d,l⟩:=h;exact⟨N,cap,by simpa using pile_set2 (v:=.int .i64 ((P.deep:Int)+1)) g,yAr i d,j,k,d,l⟩
def LevPost (ds:List Int) (base n:Nat) (w:World) (e:Ending) (w':World):Prop :=
 ∃la lc ka kc,e=.returned (.tuple #[.slice la n lc,.slice ka n kc])∧yG .u8 5 w' w.heap.size la lc (yg (levI ds base).1)∧yG .i8 22 w' w.heap.size ka kc (levI ds base).2∧Below w w w'
def LevMid (B p R:Nat) (wr:World) (S:LPile × Nat × Int) (v7 v10 v11:Value) (wx:World):Prop :=
 ∃p' R',v7=.pointer (some ⟨p',0,none⟩)∧v10=.int .u8 (S.2.1:Nat)∧v11=.int .i8 S.2.2∧yw wx B p' R' S.1∧(p'=p∨wr.heap.size≤p')∧(R'=R∨wr.heap.size≤R')∧Keep2 p R wr wx
structure LevRel (w:World) (ds:List Int) (base n:Nat) (i m:Nat) (P:LPile) (p R:Nat) (ls:List Nat) (ks:List Int) (lv kv:Value) (wx:World):Prop where
 im:i+m=n
 lown:wx.ownsRow (w.heap.size+1) 5 1 lv ls.length ((yg ls).map (Value.int .u8))
 kown:wx.ownsRow (w.heap.size+1) 22 1 kv ks.length (ks.map (Value.int .i8))
 pile:yw wx (w.heap.size+1) p R P
 ok:P.Ok i
 la:∀g,lv.ownBlock=some g→g≠p∧g≠R∧kv.ownBlock≠some g
 ka:∀g,kv.ownBlock=some g→g≠p∧g≠R
 beg:wx.heap[w.heap.size]? = some (.cells #[.int .u8 base,.int .i8 (-1),false] 253 (0,0))
 bel:Below w w wx
 sz:w.heap.size+1≤wx.heap.size
 eq:levF base ds m i P ls ks=levI ds base
 ll:ls.length=i
 kl:ks.length=i
theorem newPile (W:World) (B base:Nat) (a:B≤W.heap.size) :
 yw ((W.alloc (.cells #[.int .u8 base,.int .i8 (-1),false] 253)).alloc (.cells #[.slice (some ⟨W,0,none⟩) 1 1,.int .i64 0,.int .i64 0,.int .i64 0] 257)) B (W.heap.size+1) W.heap.size ⟨[⟨base,-1,false⟩],0,0,0⟩:=by
 refine⟨3,1,?_,⟨#[.int .u8 base,.int .i8 (-1),false],?_,rfl,rfl,by simp [yFx]⟩,by omega,a,by omega,by simp,by unfold maxLen;omega,by omega⟩
 ·have:=JS (W.alloc (.cells #[.int .u8 base,.int .i8 (-1),false] 253)) (.cells #[.slice (some ⟨W,0,none⟩) 1 1,.int .i64 0,.int .i64 0,.int .i64 0] 257);rw [zM] at this;exact this
 ·exact (qA _ _ _ (by simp)).trans (JS W _)
theorem LPile.step_at (P:LPile) (base:Nat) (a:List Int) (i:Nat) (d:Int) (h:lkn (yH a i)=d) :
 P.step base a i=if 14≤d∧d≤17 then (P.embed d,P.top.level,9)
  else if 19≤d∧d≤21 then
   (if P.room (if d=21 then decide (yEl (a.drop (i+1))=1)||decide (yEl (a.drop (i+1))=2) else decide (d=20))=true then { P.lay (if d=21 then decide (yEl (a.drop (i+1))=1)||decide (yEl (a.drop (i+1))=2) else decide (d=20)) (-1) true with opn:=P.opn+1 } else { P with deep:=P.deep+1 },P.top.level,P.said d)
  else if d=22 then (P.close,P.close.top.level,P.close.said d)
  else if d=18 then (P.fin,P.fin.top.level,9)
  else if d=9 then (P,P.top.level,9)
  else if d=10 then (⟨[⟨base,-1,false⟩],0,0,0⟩,base,10)
  else (P,P.top.level,P.said d):=by subst h;rfl
theorem yw.far {w w':World} {B p R:Nat} {P:LPile} (h:yw w B p R P) {row:Option Nat} (a:w.grownBy w' row) (d:row≠some p) (f:row≠some R):yw w' B p R P:=by
 obtain⟨N,cap,b,c,r⟩:=h;exact⟨N,cap,(a.block p (zH.1 b).1 (fun e=>d e.symm)).trans b,c.kept (a.block R c.lt (fun e=>f e.symm)),r⟩
theorem ints_snoc (l:List Nat) (x:Nat):(yg (l++[x])).map (Value.int .u8)=(yg l).map (Value.int .u8)++[.int .u8 (x:Int)]:=by unfold yg;simp
theorem lev_next {w wr wc l I:World} {v:List Int} {base n i m p R f h x y:Nat} {P:LPile} {j:List Nat} {ks:List Int} {z A:Option Addr} {S:LPile × Nat × Int} {s o:Obj} {C D:Value}
 (rel:LevRel w v base n i (m+1) P p R j ks (.slice z j.length x) (.slice A ks.length y) wr) (V:base≤125) (O:P.step base v i=S)
 (Q:yw wc (w.heap.size+1) f h S.1) (T:f=p∨wr.heap.size≤f) (U:h=R∨wr.heap.size≤h) (J:Keep2 p R wr wc)
 (E:(wc.alloc s).grownBy l (Value.slice z j.length x).ownBlock) (W:l.ownsRow (w.heap.size+1) 5 1 C (j.length+1) ((yg j).map (Value.int .u8)++[.int .u8 (S.2.1:Nat)]))
 (K:C.ownBlock=(Value.slice z j.length x).ownBlock∨C.ownBlock=some (wc.alloc s).heap.size)
 (t:(l.alloc o).grownBy I (Value.slice A ks.length y).ownBlock) (X:I.ownsRow (w.heap.size+1) 22 1 D (ks.length+1) (ks.map (Value.int .i8)++[.int .i8 S.2.2]))
 (F:D.ownBlock=(Value.slice A ks.length y).ownBlock∨D.ownBlock=some (l.alloc o).heap.size) :
 LevRel w v base n (i+1) m S.1 f h (j++[S.2.1]) (ks++[S.2.2]) C D I:=by
 have z0:=J.size;have Y:=E.size;have Z:=t.size;rw [zM] at Y Z K F;have q:=Q.lt;have q0:=rel.pile.lt;generalize hlv:Value.slice z j.length x=lv at *;generalize hkv:Value.slice A ks.length y=kv at *;have G:=fun g (b:lv.ownBlock=some g)=>rel.lown.lt g b;have u:=fun g (b:kv.ownBlock=some g)=>rel.kown.lt g b;have H:∀g,lv.ownBlock=some g→g≠f∧g≠h:=fun g b=>by
  have a:=rel.la g b;have c:=G g b;constructor
  ·rcases T with e | e <;> omega
  ·rcases U with e | e <;> omega
 have kp:∀g,kv.ownBlock=some g→g≠f∧g≠h:=fun g b=>by
  have a:=rel.ka g b;have c:=u g b;constructor
  ·rcases T with e | e <;> omega
  ·rcases U with e | e <;> omega
 have a0:=rel.sz;refine⟨by have:=rel.im;omega,?_,?_,?_,by rw [←O];exact rel.ok.step base V v i,?_,?_,?_,?_,by omega,by rw [←rel.eq,levF,O],by rw [zJ,rel.ll];rfl,by rw [zJ,rel.kl];rfl⟩
 ·rw [zJ,ZM,ints_snoc];refine yBx (W.alloc o) t fun g b=>?_;intro e;have c:=u g e;rcases K with d | d
  ·rw [d] at b;exact (rel.la g b).2.2 e
  ·rw [d] at b;cases b;omega
 ·rw [zJ,ZM,zW];exact X
 ·have a1:=(Q.keep ((Zc _ wc).alloc (zT _) s)).far E (fun e=>(H f e).1 rfl) (fun e=>(H h e).2 rfl);exact (a1.keep ((Zc _ l).alloc (zT _) o)).far t (fun e=>(kp f e).1 rfl) (fun e=>(kp h e).2 rfl)
 ·intro g b;rcases K with e | e
  ·rw [e] at b;refine⟨(H g b).1,(H g b).2,?_⟩;have c:=G g b;rcases F with d | d
   ·rw [d];exact (rel.la g b).2.2
   ·rw [d];intro r;have:=zu r;omega
  ·rw [e] at b;cases b;refine⟨by omega,by omega,?_⟩;rcases F with d | d
   ·intro r;rw [d] at r;have:=u _ r;omega
   ·rw [d];intro r;have:=zu r;omega
 ·intro g b;rcases F with e | e
  ·rw [e] at b;exact kp g b
  ·rw [e] at b;cases b;exact⟨by omega,by omega⟩
 ·have L:=(J.block w.heap.size (by omega) (by omega) (by omega)).trans rel.beg;have M:=(qA wc s w.heap.size (by omega)).trans L;have h3:=(E.block w.heap.size (by rw [zM];omega) (fun e=>by have:=G _ e.symm;omega)).trans M;have h4:=(qA l o w.heap.size (by omega)).trans h3;exact (t.block w.heap.size (by rw [zM];omega) (fun e=>by have:=u _ e.symm;omega)).trans h4
 ·have L:=rel.bel.trans (J.below (B:=w.heap.size) (by omega) (by omega) (by omega));have M:=(L.alloc (by omega) s).grown E (by rw [zM];omega) (fun k N=>by have:=G _ N;omega);exact (M.alloc (by omega) o).grown t (by rw [zM];omega) (fun k N=>by have:=u _ N;omega)
theorem LLevels_any (a:Option Addr) (A:List Int) (n cap base:Nat) (w:World) (O:A.length=n) (hd:Rd .i8 w a A) (hn:n≤2097152) (i3:n≤cap) (i4:cap≤9223372036854775807) (C:base≤125) :
 Calls Tryz.prog 140 #[.slice a n cap,.int .u8 base] w (LevPost A base n w):=by
 obtain⟨i5,d9,e4,e5,e6⟩:=info_parts (Tryz.info_u8);obtain⟨e7,e8,e9,f0,f3⟩:=info_parts (Tryz.info_i8);have HL:=lh O;have HI:Hid (levF base A n 0 ⟨[⟨base,-1,false⟩],0,0,0⟩ [] []=levI A base):=by
  unfold levI;rw [Nat.min_eq_left C,O];exact rfl
 have i6:min (base:Int) 125=base:=by omega
 clear O;go_enter Tryz.func140,Tryz.ntmps140;go_wp2;have c5:∀o1,(w.alloc o1).heap.size=w.heap.size+1:=fun o1=>zM w o1;have b7:=newPile (w.alloc (.cells #[.int .u8 base,.int .i8 (-1),false] 253)) (w.heap.size+1) base (by rw [c5];omega);rw [c5] at b7;have c6:=(((Zc w.heap.size w).alloc (zT _) (.cells #[.int .u8 base,.int .i8 (-1),false] 253)).alloc (by simp) (.cells #[.int .u8 base,.int .i8 (-1),false] 253)).alloc (by simp;omega) (.cells #[.slice (some ⟨w.heap.size+1,0,none⟩) 1 1,.int .i64 0,.int .i64 0,.int .i64 0] 257);go_loopw [4,5,7,23] (fun u4 u5 u7 u23 D=>∃i m P p R M ks,u7=.pointer (some ⟨p,0,none⟩)∧u23=.int .i64 (i:Nat)∧LevRel w A base n i m P p R M ks u4 u5 D) (fun _ _ _ c _=>n-(intOf c).toNat)
 case atStart =>
  refine⟨0,n,⟨[⟨base,-1,false⟩],0,0,0⟩,w.heap.size+1+1,w.heap.size+1,[],[],rfl,rfl,⟨by omega,Zx _ _ _ _,Zx _ _ _ _,b7,LPile.begin_ok base 0 C,fun g H=>by simp [Value.ownBlock] at H,fun g H=>by simp [Value.ownBlock] at H,?_,c6,by simp,HI.out,rfl,rfl⟩⟩;exact (qA _ _ _ (by simp;omega)).trans ((qA _ _ _ (by simp)).trans (JS w _))
 case round =>
  clear b7 c6;obtain⟨i,m,P,p,R,M,ks,rfl,rfl,rel⟩:=hrel;have i7:=rel.im;by_cases hi:i<n
  ·obtain⟨la,lc,Q,f4,f5⟩:=yP rel.lown;obtain⟨ka,kc,b8,f6,f7⟩:=yP rel.kown;subst Q b8;obtain⟨G,o,rfl,i9,c7⟩:=hd.at rel.bel i (by have:=HL.out;omega);obtain⟨y,hy⟩:=nm (yH A i);rw [hy] at c7;obtain⟨d,b0⟩:=nm (lkn y);have a7:=lh (P.step_at base A i d (by rw [hy];exact b0));have HD:Hid (∀W,Calls Tryz.prog 137 #[.int .i8 y] W fun e w'=>e=.returned (.int .i8 d)∧W=w'):=lh fun W=>by rw [←b0];exact yBw y W
   have f8:=lkn_bd y;rw [b0] at f8;have c8:=lh (fun W (C:Below wr wr W)=>yG8 W _ p R P (rel.pile.keep C) rel.ok.ne);have c9:=lh (fun W (C:Below wr wr W)=>said_any W _ p R P d (rel.pile.keep C) rel.ok.ne);have Q:=rel.ok.top.1;have j0:=rel.ok.len;have j1:=rel.ok.emb;have l:=lh rel;clear b0 hy rel;obtain⟨s,hs⟩:=nm (P.top);obtain⟨sd,b9⟩:=nm (P.said d);have f9:Hid (∀W,Below wr wr W→Calls Tryz.prog 180 #[.pointer (some ⟨p,0,none⟩)] W fun e w'=>e=.returned (.agg #[.int .u8 s.level,.int .i8 s.over,s.iso])∧Below W.heap.size W w'):=lh fun W C=>by rw [←hs];exact c8.out W C
   have g0:Hid (∀W,Below wr wr W→Calls Tryz.prog 181 #[.pointer (some ⟨p,0,none⟩),.int .i8 d] W fun e w'=>e=.returned (.int .i8 sd)∧Below W.heap.size W w'):=lh fun W C=>by rw [←b9];exact c9.out W C
   rw [hs,b9] at a7;have g3:=st_field0 (.int .u8 s.level) (.int .i8 s.over) (.bool s.iso);clear c8 c9 hs b9;go_upto_block 2 with (first | (go_at_call 137;refine (HD.out _).mono ?_;rintro e w' ⟨rfl,T⟩;subst T) | (go_at_call 180;refine (f9.out _ (Zc _ _)).mono ?_;rintro e w1 ⟨rfl,b5⟩) | (go_at_call 181;refine (g0.out _ b5).mono ?_;rintro e u ⟨rfl,a0⟩));have a4:Below wr wr u:=b5.trans (a0.mono b5.size);have a8:=lh (l.out.pile.keep a4);have d0:u.heap[w.heap.size]? = some (.cells #[.int .u8 base,.int .i8 (-1),false] 253 (0,0)):=(a4.block _ (by have:=l.out.sz;omega)).trans l.out.beg;obtain⟨e0,e1,e2⟩:=qc3 d0;have U:wr.heap.size≤u.heap.size:=a4.size;have V:=lh a4;have c0:=lh (hd.below (w':=u) ((l.out.bel.trans (a4.mono l.out.bel.size))));clear b5 a0 a4 d0 c7;go_cut [7,10,11] (fun v7 g4 g5 D=>LevMid (w.heap.size+1) p R wr (P.step base A i) v7 g4 g5 D)
   case first =>
    have d1:∀k,LevMid (w.heap.size+1) p R wr (P,s.level,k) (.pointer (some ⟨p,0,none⟩)) (.int .u8 s.level) (.int .i8 k) u:=fun k=>⟨p,R,rfl,rfl,rfl,a8.out,.inl rfl,.inl rfl,Keep2.of V.out⟩;have d2:=lh d1;clear d1;by_cases I:14≤d∧d≤17
    ·have b:=a7.out.trans (Zg I);have d3:=embed_any u _ p R P d a8.out l.out.ok.ne Q (by omega) (by omega) (by omega);have B:=lh b;have g6:=lh d3;have g7:d=14∨d=15∨d=16∨d=17:=(by omega);clear b d3 I;rcases g7 with rfl | rfl | rfl | rfl
     all_goals
      go_wp2_with (go_at_call 182;refine g6.out.mono ?_;rintro e v ⟨rfl,f,j,x,z⟩);go_meet;rw [B.out];exact⟨p,f,rfl,rfl,rfl,j,.inl rfl,x.imp id (fun h=>zY U h),(Keep2.of V.out).trans z (.inl rfl)⟩
    ·have b:=a7.out.trans (Zf I);by_cases N:19≤d∧d≤21
     ·have b:=b.trans (Zg N);obtain⟨F,hF⟩:=nm (yEl (A.drop (i+1)));rw [hF] at b;obtain⟨X,J⟩:=nm ((if d=21 then decide (F=1)||decide (F=2) else decide (d=20)));rw [J] at b;have O:=lay_any u _ p R P X (-1) true a8.out l.out.ok.ne Q (by omega);obtain⟨rm,c3⟩:=nm (P.room X);rw [c3] at b O;have B:=lh b;have j2:=l.out.ok.deep;have j3:=l.out.ok.opn;have kt:rm=true→∀v f,yw v (w.heap.size+1) p f (P.lay X (-1) true)→(f=R∨u.heap.size≤f)→Keep2 p R u v →
       LevMid (w.heap.size+1) p R wr (P.step base A i) (.pointer (some ⟨p,0,none⟩)) (.int .u8 s.level) (.int .i8 sd) (v.setCell ⟨p,1,none⟩ (.int .i64 ((P.opn:Int)+1))):=fun hr v f j x z=>by
       rw [B.out,Zg hr];exact⟨p,f,rfl,rfl,rfl,iso_true j,.inl rfl,x.imp id (fun h=>zY U h),((Keep2.of V.out).trans z (.inl rfl)).set 1 _⟩
      have kf:rm=false→∀v f,yw v (w.heap.size+1) p f (P.lay X (-1) true)→(f=R∨u.heap.size≤f)→Keep2 p R u v →
       LevMid (w.heap.size+1) p R wr (P.step base A i) (.pointer (some ⟨p,0,none⟩)) (.int .u8 s.level) (.int .i8 sd) (v.setCell ⟨p,2,none⟩ (.int .i64 ((P.deep:Int)+1))):=fun hr v f j x z=>by
       rw [B.out,Zf (by rw [hr];decide)];exact⟨p,f,rfl,rfl,rfl,iso_false j (c3.trans hr),.inl rfl,x.imp id (fun h=>zY U h),((Keep2.of V.out).trans z (.inl rfl)).set 2 _⟩
      have KT:=lh kt;have KF:=lh kf;have a5:=lh O;have d4:=lh hF;have g8:d=19∨d=20∨d=21:=(by omega);clear b kt kf O hF c3 N I;have g1:(i:Int)+1≤(n:Int):=(by omega);have g2:(n:Int)≤(cap:Int):=(by omega);rcases g8 with rfl | rfl | rfl
      ·rw [Zf (by decide)] at J;go_upto_if 61 with fail;go_cut [12] (fun t D=>t=.bool X∧D=u)
       case first =>
        go_wp2;go_meet;exact⟨by rw [←J];rfl,rfl⟩
       case rest =>
        obtain⟨rfl,E⟩:=hcut;have Y:=E.symm;clear E;subst Y;cases rm with
        | true =>
          go_wp2_with (go_at_call 183;refine a5.out.mono ?_;rintro e v ⟨rfl,f,j,x,z⟩;obtain⟨c1,c2,K,L⟩:=yE5 j);go_meet;exact KT.out (by first | rfl | trivial) v f j x z
        | false =>
          go_wp2_with (go_at_call 183;refine a5.out.mono ?_;rintro e v ⟨rfl,f,j,x,z⟩;obtain⟨c1,c2,K,L⟩:=yE5 j);go_meet;exact KF.out (by first | rfl | trivial) v f j x z
      ·rw [Zf (by decide)] at J;go_upto_if 61 with fail;go_cut [12] (fun t D=>t=.bool X∧D=u)
       case first =>
        go_wp2;go_meet;exact⟨by rw [←J];rfl,rfl⟩
       case rest =>
        obtain⟨rfl,E⟩:=hcut;have Y:=E.symm;clear E;subst Y;cases rm with
        | true =>
          go_wp2_with (go_at_call 183;refine a5.out.mono ?_;rintro e v ⟨rfl,f,j,x,z⟩;obtain⟨c1,c2,K,L⟩:=yE5 j);go_meet;exact KT.out (by first | rfl | trivial) v f j x z
        | false =>
          go_wp2_with (go_at_call 183;refine a5.out.mono ?_;rintro e v ⟨rfl,f,j,x,z⟩;obtain⟨c1,c2,K,L⟩:=yE5 j);go_meet;exact KF.out (by first | rfl | trivial) v f j x z
      ·rw [Zg rfl] at J;go_upto_if 61 with fail;go_cut [12] (fun t D=>t=.bool X∧D=u)
       case first =>
        go_upto_region 24 with fail;go_cut [13] (fun t D=>t=.int .i8 F∧D=u)
        case first =>
         by_cases g9:cap=i+1
         ·have h0:n=i+1:=(by omega);have d5:A.drop (i+1)=[]:=(by rw [List.drop_eq_nil_iff];have:=HL.out;omega);have a9:=lh (yL7 (some ⟨G,o,none⟩) [] 0 0 u rfl (.inl rfl) (by omega));have e3:=d4.out;rw [d5] at e3;rw [e3] at a9;clear e3 d5 a7 c0;subst g9;subst h0;go_wp2_with (go_at_call 138;refine (a9.out).mono ?_;rintro e w' ⟨rfl,T⟩;have a0:=T.symm;clear T;subst a0);go_meet;exact⟨rfl,rfl⟩
         ·have a9:=lh (yL7 (some ⟨G,o+(i+1),none⟩) (A.drop (i+1)) (n-(i+1)) (cap-(i+1)) u (by rw [zy,HL.out]) (yI4 c0.out (i+1)) (by omega));rw [d4.out] at a9;go_wp2_with (go_at_call 138;refine (a9.out).mono ?_;rintro e w' ⟨rfl,T⟩;have a0:=T.symm;clear T;subst a0);go_meet;exact⟨rfl,rfl⟩
        case rest =>
         obtain⟨rfl,E⟩:=hcut;have Y:=E.symm;clear E;subst Y;by_cases K:F=1
         ·subst K;go_wp2;go_meet;exact⟨by rw [←J];rfl,rfl⟩
         ·by_cases L:F=2
          ·subst L;go_wp2;go_meet;exact⟨by rw [←J];rfl,rfl⟩
          ·have j4:(F==1)=false:=(by simpa using K);have j5:(F==2)=false:=(by simpa using L);go_wp2;go_meet;exact⟨by rw [←J,zP K,zP L];rfl,rfl⟩
       case rest =>
        obtain⟨rfl,E⟩:=hcut;have Y:=E.symm;clear E;subst Y;cases rm with
        | true =>
          go_wp2_with (go_at_call 183;refine a5.out.mono ?_;rintro e v ⟨rfl,f,j,x,z⟩;obtain⟨c1,c2,K,L⟩:=yE5 j);go_meet;exact KT.out (by first | rfl | trivial) v f j x z
        | false =>
          go_wp2_with (go_at_call 183;refine a5.out.mono ?_;rintro e v ⟨rfl,f,j,x,z⟩;obtain⟨c1,c2,K,L⟩:=yE5 j);go_meet;exact KF.out (by first | rfl | trivial) v f j x z
     ·have b:=b.trans (Zf N);by_cases Z:d=22
      ·have b:=b.trans (Zg Z);have B:=lh b;subst Z;have b6:=l.out.ok.close;have c4:=lh (close_any u _ p R P i a8.out l.out.ok (by omega));have h3:=stV_f0 P.close.top;clear b I N;go_wp2_with (first | (go_at_call 184;refine c4.out.mono ?_;rintro e v ⟨rfl,f,j,x,z⟩) | (go_at_call 180;refine (yG8 v _ p f P.close j b6.ne).mono ?_;rintro e w4 ⟨rfl,a6⟩) | (go_at_call 181;refine (said_any w4 _ p f P.close 22 (j.keep a6) b6.ne).mono ?_;rintro e w5 ⟨rfl,d6⟩));go_meet;rw [B.out];exact⟨p,f,rfl,rfl,rfl,(j.keep a6).keep d6,.inl rfl,x.imp id (fun h=>zY U h),(((Keep2.of V.out).trans z (.inl rfl)).trans (Keep2.of a6) (.inl rfl)).trans (Keep2.of d6) (.inl rfl)⟩
      ·have b:=b.trans (Zf Z);by_cases cd:d=18
       ·have b:=b.trans (Zg cd);have B:=lh b;subst cd;have b6:=l.out.ok.fin;have c4:=lh (fin_any u _ p R P a8.out l.out.ok.ne (by omega) (by omega));have h3:=stV_f0 P.fin.top;clear b I N Z;go_wp2_with (first | (go_at_call 185;refine c4.out.mono ?_;rintro e v ⟨rfl,f,j,x,z⟩) | (go_at_call 180;refine (yG8 v _ p f P.fin j b6.ne).mono ?_;rintro e w4 ⟨rfl,a6⟩));go_meet;rw [B.out];exact⟨p,f,rfl,rfl,rfl,j.keep a6,.inl rfl,x.imp id (fun h=>zY U h),((Keep2.of V.out).trans z (.inl rfl)).trans (Keep2.of a6) (.inl rfl)⟩
       ·have b:=b.trans (Zf cd);by_cases ce:d=9
        ·have b:=b.trans (Zg ce);have B:=lh b;subst ce;clear b I N Z cd;go_wp2;go_meet;rw [B.out];exact d2.out 9
        ·have b:=b.trans (Zf ce);by_cases cf:d=10
         ·have b:=b.trans (Zg cf);have B:=lh b;subst cf;clear b I N Z cd ce;have h4:w.heap.size+1≤u.heap.size:=(by have:=l.out.sz;omega);have h5:w.heap.size<u.heap.size:=(by omega);have j6:((u.alloc (.cells #[.int .u8 base,.int .i8 (-1),false] 253)).alloc (.cells #[.slice (some ⟨u,0,none⟩) 1 1,.int .i64 0,.int .i64 0,.int .i64 0] 257)).cell? ⟨w,0,none⟩=some (.int .u8 base):=by
           rw [←e0];exact JL ((qA _ _ _ (by simp;omega)).trans (qA _ _ _ h5))
          go_wp2;go_meet;rw [B.out];exact⟨u.heap.size+1,u.heap.size,rfl,rfl,rfl,newPile u _ base h4,.inr (by omega),.inr U,((Keep2.of V.out).alloc _).alloc _⟩
         ·have b:=b.trans (Zf cf);have B:=lh b;have j7:(d==14)=false:=(by rw [zN];omega);have j8:(d==15)=false:=(by rw [zN];omega);have j9:(d==16)=false:=(by rw [zN];omega);have k0:(d==17)=false:=(by rw [zN];omega);have k1:(d==18)=false:=(by rw [zN];omega);have k2:(d==19)=false:=(by rw [zN];omega);have k3:(d==20)=false:=(by rw [zN];omega);have k4:(d==21)=false:=(by rw [zN];omega);have k5:(d==22)=false:=(by rw [zN];omega);have n9:(d==9)=false:=(by rw [zN];omega);have k6:(d==10)=false:=(by rw [zN];omega);clear b I N Z cd ce cf;go_wp2;go_meet;rw [B.out];exact d2.out sd
   case rest =>
    obtain⟨p',f,rfl,rfl,rfl,b1,b2,b3,b4⟩:=hcut;obtain⟨S,hS⟩:=nm (P.step base A i);obtain⟨q,hq⟩:∃q,m=q+1:=⟨m-1,by omega⟩;subst hq;have h6:=lh (b4.own l.out.lown fun g H=>⟨(l.out.la g H).1,(l.out.la g H).2.1⟩);have h7:=lh (b4.own l.out.kown fun g H=>l.out.ka g H);have k7:=b4.size;have k8:=l.out.sz;have d7:M.length≤2097152:=(by have:=l.out.ll;omega);have d8:ks.length≤2097152:=(by have:=l.out.kl;omega);rw [hS] at b1 ⊢;have h8:=lh hS;obtain⟨SP,Sl,Sk⟩:=S;clear hS a7 c0 e0 e1 e2 Q U g3;go_wp2_with (first
     | (at_builtin;refine Zy _ rfl _ _ 118 rfl (w.heap.size+1) 5 i5 (.int .u8 0) 1 1 Tryz.underlying118 d9 e4 e5 e6 rfl (by decide) _ M.length _ rfl (h6.out.alloc _) ⟨wc,0,none⟩ 1 1 [.int .u8 (Sl:Nat)] rfl rfl (JV _ _ _) (by simp [Value.oneCell']) (by unfold maxLen;omega) (by omega) (by simp;omega) ?_;intro v4 w4 o4 g1 _ l4;have h9:=lh (yBx (h7.out.alloc _) g1 (fun g H e=>(l.out.la g e).2.2 H));have i0:=g1.size;rw [zM] at i0;have O4:=lh o4;have G1:=lh g1;have L4:=lh l4;clear o4 g1 l4)
     | (at_builtin;refine Zy _ rfl _ _ 123 rfl (w.heap.size+1) 22 e7 (.int .i8 0) 1 1 Tryz.underlying123 e8 e9 f0 f3 rfl (by decide) _ ks.length _ rfl (h9.out.alloc _) ⟨w4,0,none⟩ 1 1 [.int .i8 Sk] rfl rfl (JV _ _ _) (by simp [Value.oneCell']) (by unfold maxLen;omega) (by omega) (by simp;omega) ?_;intro v5 w5 o5 g2 _ l5))
    go_roundw
    case rel=>exact⟨i+1,q,SP,p',f,M++[Sl],ks++[Sk],rfl,by go_num,lev_next l.out C h8.out b1 b2 b3 b4 G1.out O4.out L4.out g2 o5 l5⟩
    case measure=>simp [intOf];omega
  ·have i1:m=0:=(by omega);have l:=lh rel;obtain⟨la,lc,Q,f4,f5⟩:=yP rel.lown;obtain⟨ka,kc,b8,f6,f7⟩:=yP rel.kown;subst Q b8 i1;clear rel;go_wp2
   go_ret2
   have r:=l.out;have d7:=r.ll;have d8:=r.kl;have i2:i=n:=(by omega);have he:=r.eq;rw [levF] at he;have h1:(levI A base).1=M:=(by rw [←he]);have h2:(levI A base).2=ks:=(by rw [←he]);refine⟨la,lc,ka,kc,by rw [d7,d8,i2];rfl,?_,?_,r.bel⟩
   ·rw [h1];have:=yq (base':=w.heap.size) r.lown (by omega);unfold yG;have e:(yg M).length=M.length:=(by unfold yg;simp);rw [e];exact this
   ·rw [h2];exact yq (base':=w.heap.size) r.kown (by omega)
end
section
open Go.RowKit Go.Maps
theorem Tryz.info_ints:(Tryz.prog.info? 93).map (fun i=>(i.zero,i.size,i.bytes))=some (some (.slice none 0 0),1,24):=by kernel_rfl
theorem zero_int (w:World):(zeroValue 3).run Tryz.prog w=.ok (.int .i64 0) w:=by kernel_rfl
theorem yOj:Keyed Tryz.prog 3:=int_keyed Tryz.underlying3
theorem yAw.base {w:World} {b a c d:Nat} {v:Value} {e:List (List Nat)} (h:yAw w b c d v e) (f:a≤b):yAw w a c d v e:=by
 obtain⟨g,i,j,l⟩:=h;exact⟨g,yq i f,fun k m=>yq (j k m) f,l⟩
def RunsPost (R:List (List Nat)) (w:World) (e:Ending) (w':World):Prop :=
 ∃v,e=.returned v∧yAw w' w.heap.size 93 3 v R∧Below w w w'
structure RunW (w:World) (M n:Nat) (ps:List Int) (v:Value) (out:List (List Nat)) (D:DataW Unit) (cnt:Nat) (wx:World):Prop where
 nest:yAw wx (M+1) 93 3 v out
 map:wx.ownsMap Tryz.prog 3 (plainElem Tryz.prog 3) M cnt D
 prs:yG .i64 3 wx w.heap.size (some ⟨w,0,none⟩) n ps
 lt:w.heap.size<M
 sz:M+1≤wx.heap.size
 bel:Below w w wx
theorem ownsRow_below {w w':World} {base e a n X:Nat} {v:Value} {xs:List Value} (h:w.ownsRow base e a v n xs) (b:Below X w w') (c:∀g,v.ownBlock=some g→g<X):w'.ownsRow base e a v n xs:=by
 refine⟨h.1,?_⟩;rcases h.2 with d | ⟨g,cap,f,rfl,i,j,r⟩
 ·exact .inl d
 ·exact .inr ⟨g,cap,f,rfl,i,(b.block g (c g rfl)).trans j,r⟩
theorem RunW.turn {w b w':World} {M n c:Nat} {d:List Int} {v e:Value} {i f:List (List Nat)} {D:DataW Unit} (h:RunW w M n d v i D c b) (a:Below (M+1) b w')
 (j:yAw w' (M+1) 93 3 e f):RunW w M n d e f D c w':=by
 have k:=h.lt;refine⟨j,?_,ownsRow_below h.prs a (fun g l=>by cases l;exact Nat.lt_succ_of_lt k),h.lt,zY h.sz a.size,h.bel.trans (a.mono (by omega))⟩;obtain⟨m,o,p,F,q,r⟩:=h.map;exact⟨m,o,(a.block M (by omega)).trans p,F,q,r⟩
theorem RunW.keep {w a w':World} {M n b:Nat} {c:List Int} {v:Value} {d:List (List Nat)} {D:DataW Unit} (h:RunW w M n c v d D b a) (e:Below a a w'):RunW w M n c v d D b w' :=
 h.turn (e.mono h.sz) (h.nest.keep e)
theorem RunW.mapped {w b w':World} {M n j c:Nat} {d:List Int} {v:Value} {f:List (List Nat)} {D i:DataW Unit} (h:RunW w M n d v f D j b) (l:w'.ownsMap Tryz.prog 3 (plainElem Tryz.prog 3) M c i) (a:b.grownBy w' (some M)) :
 RunW w M n d v f i c w':=by
 have m:=h.lt;refine⟨h.nest.far a (fun g e=>by cases e;omega),l,JC h.prs a (.inr fun e=>by simp [Value.ownBlock] at e;omega),h.lt,zY h.sz a.size,h.bel.grown a (by have:=h.sz;omega) (fun k e=>by cases e;omega)⟩
theorem RunW.snoc {w a:World} {M n j:Nat} {k:List Int} {v:Value} {d:List (List Nat)} {D:DataW Unit} (h:RunW w M n k v d D j a) :
 ∃f,a.ownsRow (M+1) 93 1 v d.length f∧∀b c w',w'.ownsRow (M+1) 93 1 c (d.length+1) (f++[.slice none 0 0])→(a.alloc b).grownBy w' v.ownBlock →
   (c.ownBlock=v.ownBlock∨c.ownBlock=some (a.alloc b).heap.size)→RunW w M n k c (d++[[]]) D j w':=by
 obtain⟨f,i,m,o⟩:=h.nest;have p:=h.sz;refine⟨f,i,fun b c w' q l r=>?_⟩;have s:=(World.grownBy_alloc a b v.ownBlock).trans l;have t:=fun g (u:v.ownBlock=some g)=>(i.lt g u).1;refine h.turn (((Zc (M+1) a).alloc p b).grown l (by rw [zM];omega) t) (yAw.grown (w1:=a) m o (by have:=i.1;omega) s q ?_);rcases r with e | e
 ·exact .inl e
 ·exact .inr ⟨_,e,by rw [zM];omega⟩
theorem RunW.elem {w d:World} {M n o:Nat} {q:List Int} {v:Value} {b:List (List Nat)} {D:DataW Unit} (h:RunW w M n q v b D o d) (k i:Nat) (z:k<b.length) :
 ∃G cap a c,v=.slice (some ⟨G,0,none⟩) b.length cap∧d.cell? ⟨G,k,none⟩=some (.slice a (b.getD k []).length c)∧d.frozen? ⟨G,k,none⟩=false∧cap≤maxLen∧b.length≤cap∧(b.getD k []).length≤c∧c≤maxLen ∧
   d.ownsRow (M+1) 3 1 (.slice a (b.getD k []).length c) (b.getD k []).length (yDc (b.getD k [])) ∧
   ∀j f w',w'.ownsRow (M+1) 3 1 f ((b.getD k []).length+1) (yDc (b.getD k [])++[.int .i64 (i:Nat)])→(d.alloc j).grownBy w' (Value.slice a (b.getD k []).length c).ownBlock →
     (f.ownBlock=(Value.slice a (b.getD k []).length c).ownBlock∨f.ownBlock=some (d.alloc j).heap.size) →
     w'.cell? ⟨G,k,none⟩=some (.slice a (b.getD k []).length c)∧w'.frozen? ⟨G,k,none⟩=false∧RunW w M n q v (b.set k (b.getD k []++[i])) D o (w'.setCell ⟨G,k,none⟩ f):=by
 obtain⟨G,cap,s,l,A,B,r,t,C,m,E,F⟩:=h.nest.elem k z;obtain⟨a,c,rfl,H,I⟩:=yP m;have J:=h.sz;have K:b.length≤cap:=by
  obtain⟨Q,R,e,L,S⟩:=h.nest.shape;rw [l] at e;cases e;exact L
 refine⟨G,cap,a,c,l,r,t,C,K,H,I,m,fun j f w' N u O=>?_⟩;have x:=(World.grownBy_alloc d j (Value.slice a (b.getD k []).length c).ownBlock).trans u;have y:w'.heap[G]? = d.heap[G]?:=x.block G B (fun e=>E e.symm);refine⟨(JL (a:=⟨G,k,none⟩) y).trans r,(World.frozen?_of_block (a:=⟨G,k,none⟩) y).trans t,?_⟩;have P:=fun g (l:(Value.slice a (b.getD k []).length c).ownBlock=some g)=>(m.lt g l).1;refine h.turn ((((Zc (M+1) d).alloc J j).grown u (by rw [zM];omega) P).setCell (p:=⟨G,k,none⟩) A _) (F w' f (b.getD k []++[i]) ?_ x ?_)
 ·rw [zJ,ZM,nats_snoc];exact N
 ·rcases O with e | e
  ·exact .inl e
  ·exact .inr ⟨_,e,by rw [zM];omega⟩
theorem RSt.at_none (s:RSt) (a:List Int) (i:Nat) (h:yNj s.goes i=none):s.at a i=none:=by
 have:s.find i=none:=h;unfold RSt.at;rw [this]
theorem RSt.at_some (s:RSt) (a:List Int) (i k:Nat) (h:yNj s.goes i=some k):s.at a i=if (((s.out.getD k []).getLastD 0:Nat):Int)≠yH a i then none else some k:=by
 have:s.find i=some k:=h;unfold RSt.at;rw [this]
structure RunRel (w:World) (M n:Nat) (ds ls ps:List Int) (fin:List (List Nat)) (i m:Nat) (s:RSt) (D:DataW Unit) (v:Value) (wx:World):Prop where
 im:i+m=n
 rw_:RunW w M n ps v s.out D i wx
 mp:MapIs D s.goes
 ok:s.Ok i
 eq:(yKt ds ls ps m i s).out=fin
theorem put_out (s:RSt) (k i:Nat) (last:Int) (g:List (Nat × Nat)) (d:k≤s.out.length) (a:List (List Nat)) (b:a=if k<s.out.length then s.out else s.out++[[]]) :
 (s.put k i last g).out=a.set k (a.getD k []++[i])∧k<a.length:=by
 unfold RSt.put;by_cases h:k<s.out.length
 ·rw [Zg h] at b;rw [Zg h,b];exact⟨rfl,h⟩
 ·rw [Zf h] at b;have c:k=s.out.length:=(by omega);rw [Zf h,b];refine⟨?_,by simp;omega⟩;rw [zI,c,zr (zT _),Zk,qm _ _ (zT _),Zk];rfl
theorem LRuns_any (a la:Option Addr) (p g:List Int) (n cap lc:Nat) (w:World) (F:p.length=n) (f1:g.length=n) (hd:Rd .i8 w a p) (f2:Rd .u8 w la g) (hn:n≤2097152) (n4:n≤cap) (j7:cap≤9223372036854775807) :
 Calls Tryz.prog 141 #[.slice a n cap,.slice la n lc] w (RunsPost (runsI p g) w):=by
 obtain⟨i3,j8,j9,k4,k5⟩:=info_parts (Tryz.info_int);obtain⟨f3,f4,f5,f6,f7⟩:=info_parts (Tryz.info_ints);have HL:=lh F;have f8:=lh f1;have c7:=lh (yO2 a p n cap w F hd hn);obtain⟨f,b8⟩:=nm (yDi p);have hI:runsI p g=(yKt p g f n 0 ⟨[],[],-1,-1⟩).out:=by
  rw [←b8];unfold runsI;have e:min p.length g.length=n:=(by omega);have e2:p.take n=p:=(by rw [←F];exact Zp);simp only [e,e2]
 have N:=fun j=>pairsI_bd p j;rw [b8,F] at N;unfold yJ4 at c7;rw [b8] at c7;rw [hI];have k6:=lh N;clear b8 hI F f1 N;have k7:=@run_makeMap Tryz.prog;have g0:(n:Int)≤(cap:Int):=by omega
 go_enter Tryz.func141,Tryz.ntmps141;go_wp2_with (go_at_call 186;refine c7.out.mono ?_;rintro e w1 ⟨rfl,f9,g1,g2⟩);have g3:Below w w (w1.alloc (.map #[] 0)):=g2.alloc g2.size _;have g4:w.heap.size<w1.heap.size:=g1.lt.2;have c8:RunW w w1.heap.size n f (.slice none 0 0) [] (.map []) 0 (w1.alloc (.map #[] 0)) :=
  ⟨yAw.nil _ _ _ _,World.ownsMap_made _ _ _ _,qP g1 _,g4,by simp,g3⟩
 clear k7;obtain⟨M,hM⟩:=nm (w1.heap.size);obtain⟨fin,c9⟩:=nm ((yKt p g f n 0 ⟨[],[],-1,-1⟩).out);rw [hM] at c8 ⊢;rw [c9];have g5:=lh c9;clear hM c9 g3;go_loopw [7,9,10,27] (fun u7 u9 u10 u27 B=>∃i m s D,u9=.int .i64 s.now∧u10=.int .i64 s.last∧u27=.int .i64 (i:Nat)∧RunRel w M n p g f fin i m s D u7 B) (fun _ _ _ c _=>n-(intOf c).toNat)
 case atStart=>exact⟨0,n,⟨[],[],-1,-1⟩,.map [],rfl,rfl,rfl,⟨by omega,c8,MapIs.nil,RSt.start_ok,g5.out⟩⟩
 case round =>
  obtain⟨i,m,s,D,rfl,rfl,rfl,rel⟩:=hrel;have g6:=rel.im;clear c8;by_cases hi:i<n
  ·obtain⟨q,hq⟩:∃q,m=q+1:=⟨m-1,by omega⟩;subst hq;obtain⟨G,o,rfl,n5,g7⟩:=hd.at rel.rw_.bel i (by have:=HL.out;omega);obtain⟨y,hy⟩:=nm (yH p i);rw [hy] at g7;obtain⟨d,b9⟩:=nm (lkn y);have d0:=rel.ok.step_put p g f;rw [hy,b9] at d0;have HD:Hid (∀W,Calls Tryz.prog 137 #[.int .i8 y] W fun e w'=>e=.returned (.int .i8 d)∧W=w'):=lh fun W=>by rw [←b9];exact yBw y W
   have HS:=lh d0;have v:=lh rel;have HY:=lh hy;have k8:=lh b9;have d1:=rel.ok.now0;have a8:=rel.ok.now1;have d2:=rel.ok.last0;have d3:=rel.ok.last1;have c0:=rel.ok.len;have O:Hid (∀D' Z w',RunW w M n f Z (s.step p g f i).out D' (i+1) w'→MapIs D' (s.step p g f i).goes→RunRel w M n p g f fin (i+1) q (s.step p g f i) D' Z w'):=lh fun D' Z w' h1 h2 =>
    ⟨by omega,h1,h2,rel.ok.step p g f,by rw [←rel.eq,yKt]⟩
   obtain⟨lb,d4⟩:=nm (yDp d);have g8:Hid (∀W,Calls Tryz.prog 187 #[.int .i8 d] W fun e w'=>e=.returned (.bool lb)∧W=w'):=lh fun W=>by rw [←d4];exact yM2 d W
   rw [d4] at HS;obtain⟨nw,c1⟩:=nm (s.now);obtain⟨lt,d5⟩:=nm (s.last);have d6:=lh c1;have g9:=lh d5;rw [c1] at d1 a8 ⊢;rw [d5] at d2 d3 ⊢;clear hy b9 rel d0 d4 c1 d5;go_upto_region 11 with (go_at_call 137;refine (HD.out _).mono ?_;rintro e w' ⟨rfl,x⟩;subst x);cases lb with
   | true =>
     have P:=lh (HS.out.trans (Zg rfl));go_wp2_with (go_at_call 187;refine (g8.out _).mono ?_;rintro e w' ⟨rfl,x⟩;subst x);go_roundw
     case rel=>exact⟨i+1,q,s,D,d6.out▸rfl,g9.out▸rfl,by go_num,by
      have:=O.out D u7 wr;rw [P.out] at this;exact this ⟨v.out.rw_.nest,v.out.rw_.map.mono (by omega),v.out.rw_.prs,v.out.rw_.lt,v.out.rw_.sz,v.out.rw_.bel⟩ v.out.mp⟩
     case measure=>simp [intOf];omega
   | false =>
     have P:=lh (HS.out.trans (Zf (by decide)));clear HS;go_upto_region 12 with (go_at_call 187;refine (g8.out _).mono ?_;rintro e w' ⟨rfl,x⟩;subst x);obtain⟨A,a9⟩:∃A,A=(decide (s.now<0)||decide (s.last<0)||(yH g s.last.toNat != yH g i)):=⟨_,rfl⟩;have h3:s.pick g f i=if A=true then (s.at f i).getD s.out.length else s.now.toNat:=by
      unfold RSt.pick;have e:(s.now<0∨s.last<0∨yH g s.last.toNat≠yH g i)↔A=true:=by
       rw [a9];simp [or_assoc]
      by_cases h:A=true
      ·rw [Zg (e.2 h),Zg h]
      ·rw [Zf (fun h'=>h (e.1 h')),Zf h]
     have a0:=v.out.ok.pick_le g f;have b0:Hid (A=(decide (nw<0)||decide (lt<0)||(yH g lt.toNat != yH g i))):=lh (by rw [←d6.out,←g9.out];exact a9);have c2:=lh h3;have h4:=v.out.rw_.bel;have HB:=lh h4;clear a9 h3 g7 h4;go_cut [53] (fun t B=>t=.bool A∧RunW w M n f u7 s.out D i B∧Below wr wr B)
     case first =>
      have h5:∀b:Bool,b=A→∀q',(.bool b:Value)=.bool A∧RunW w M n f u7 s.out D i (wr.drewN q')∧Below wr wr (wr.drewN q'):=fun b hb q'=>⟨by rw [hb],v.out.rw_.keep (yI (Zc _ _) q'),yI (Zc _ _) q'⟩;have d7:=lh h5;clear a0 c0 a8 h5 g6;by_cases h1:nw<0
      ·have Q:Hid (true=A):=lh (by rw [b0.out];simp [h1]);go_quiet (fail);go_wp2;go_meet;exact d7.out _ Q.out _
      ·by_cases h2:lt<0
       ·have Q:Hid (true=A):=lh (by rw [b0.out];simp [h2]);go_quiet (fail);go_wp2;go_meet;exact d7.out _ Q.out _
       ·obtain⟨l,rfl⟩:∃l:Nat,lt=l:=⟨lt.toNat,by omega⟩;obtain⟨G2,o2,rfl,n6,k9⟩:=f2.at HB.out i (by have:=f8.out;omega);obtain⟨G3,o3,l0,n7,l1⟩:=f2.at HB.out l (by have:=f8.out;omega);cases l0;have Q:Hid ((yH g l != yH g i)=A):=lh (by rw [b0.out,zP h1,zP h2,ZC];rfl);have k0:(0:Int)≤(l:Int):=(by omega);have k1:(l:Int)<(n:Int):=(by omega);have k2:(i:Int)<(n:Int):=(by omega);have k3:(0:Int)≤(i:Int):=(by omega);generalize yH g l=y1 at l1 Q;generalize yH g i=y2 at k9 Q;clear h2;go_quiet (fail);go_wp2;go_meet;exact d7.out _ Q.out _
     case rest =>
      obtain⟨rfl,d8,l2⟩:=hcut;obtain⟨k,hk⟩:=nm (s.pick g f i);rw [hk] at c2 P a0;obtain⟨oL,d9⟩:=nm (s.out.length);have I:=lh d8;obtain⟨ao,oc,hv,l3,h6⟩:=d8.nest.shape;rw [d9] at hv l3 c0 a0 a8;subst hv;have C:=lh d9;have HK:=lh hk;clear d8 d9 hk;go_upto_if 53 with fail;go_cut [7,9] (fun v7 v9 B=>v9=.int .i64 (k:Nat)∧∃E,E=(if k<s.out.length then s.out else s.out++[[]])∧RunW w M n f v7 E D i B)
      case first =>
       cases A with
       | false =>
         have c1:0≤nw:=by
          have:=b0.out;by_cases h:nw<0
          ·rw [zQ h] at this;simp at this
          ·omega
         have l4:k=nw.toNat:=c2.out.trans (by rw [Zf (by decide),d6.out]);have h7:nw=(k:Int):=(by omega);have h8:=lh h7;clear l4 h7;go_wp2;go_meet;exact⟨by rw [h8.out],s.out,by rw [Zg (by have:=C.out;have:=h8.out;omega)],I.out⟩
       | true =>
         have h9:k=(s.at f i).getD s.out.length:=c2.out.trans (Zg rfl);have c3:=lh h9;clear h9;obtain⟨fo,J⟩:=nm (yNj s.goes i);cases fo with
         | none =>
           have hh:=v.out.mp.none_ i J;have a1:=lh (RSt.at_none s f i J);clear J;go_upto_region 14 with (at_lookup;refine wpList_lookup_own_ok_int _ rfl _ _ 262 rfl 3 3 .i64 yOj Tryz.underlying262 Tryz.underlying3 (zero_int _) M i D rfl I.out.map _ _ rfl (keyOf_int_mk Tryz.underlying3 (WalkArith.wf_i64 (by omega))) ?_;intro c b1 i0);go_cut [80] (fun t B=>t=.bool true∧RunW w M n f (.slice ao oL oc) s.out D i B)
           case first =>
            clear b1;go_quiet (fail);go_wp2;go_meet;exact⟨rfl,I.out.keep (yI (Zc _ _) _)⟩
           case rest =>
            obtain⟨rfl,R⟩:=hcut;clear b1 hh;rw [a1.out] at c3;have b2:k=oL:=c3.out.trans C.out;subst b2;obtain⟨ss,S,T⟩:=R.snoc;rw [C.out] at S T;have e0:=lh S;have e1:=lh T;have i1:=R.sz;clear S T;go_wp2_with (at_builtin;refine Zy _ rfl _ _ 218 rfl (M+1) 93 f3 (.slice none 0 0) 1 24 Tryz.underlying218 f4 f5 f6 f7 rfl (by decide) _ k _ rfl (e0.out.alloc _) ⟨wc,0,none⟩ 1 1 [.slice none 0 0] rfl rfl (JV _ _ _) (by simp [Value.oneCell']) (by unfold maxLen;omega) (by omega) (by simp;omega) ?_;intro Z w' ho hg _ F);go_meet;exact⟨rfl,s.out++[[]],by rw [Zf (by rw [C.out];omega)],e1.out _ _ _ ho hg F⟩
         | some z =>
           have hh:=(v.out.mp.some_ i z J).1;have i2:=(v.out.mp.some_ i z J).2;have b3:z<s.out.length:=v.out.ok.find_lt J;have l5:=lh i2;have a1:=lh (RSt.at_some s f i z J);clear J i2;obtain⟨Gv,n8,ea,cs,i4,b4,_,i5,e3,l6,i6,U,_⟩:=I.out.elem z i b3;rw [C.out] at i4 e3;have i7:=(v.out.ok.run z b3).1;obtain⟨V,X⟩:=nm ((s.out.getD z []).length);have i9:0<V:=(by rw [←X];exact zj.2 i7);obtain⟨L,hL⟩:∃L,V=L+1:=⟨V-1,by omega⟩;rw [X] at b4 l6 U;obtain⟨Gk,l7,_,_,j0⟩:=yB2 U i9;subst l7;have e4:=j0 L (by omega);rw [nats_get _ L (by omega)] at e4;obtain⟨lv,e5⟩:∃lv:Nat,(s.out.getD z []).getD L 0=lv:=⟨_,rfl⟩;have j1:(s.out.getD z []).getLastD 0=lv:=by
            rw [JR,qx,X,hL,Ze,←e5];rw [zI (l:=s.out.getD z [])]
           rw [j1] at a1;rw [e5] at e4;obtain⟨G1,e6,_,_,c4,_,_,_⟩:=yG.at I.out.prs i (by rw [f9];exact hi);cases e6;cases i4;obtain⟨K,b5⟩:=nm (yH f i);rw [b5] at c4 a1;have l8:(0:Int)≤(z:Int):=(by omega);have l9:(z:Int)<(oL:Int):=(by have:=C.out;omega);have n9:(0:Int)≤(L:Int):=(by omega);have o0:(L:Int)<(V:Int):=(by omega);have m0:(0:Int)≤(i:Int):=(by omega);have m1:(i:Int)<(n:Int):=(by omega);have m2:IntKind.i64.wrap ((V:Int)-1)=(L:Int):=(by rw [ZH];unfold maxLen at i6;omega);have o1:=lh hL;clear j0 e5 j1 b5 X i9 i7 U hL;go_upto_region 14 with (at_lookup;refine wpList_lookup_own_ok_int _ rfl _ _ 262 rfl 3 3 .i64 yOj Tryz.underlying262 Tryz.underlying3 (zero_int _) M i D rfl I.out.map _ _ rfl (keyOf_int_mk Tryz.underlying3 (WalkArith.wf_i64 (by omega))) ?_;intro c b1 i0;have m3:c=(z:Int):=(by have e:=b1.symm.trans l5.out;injection e with e;injection e);clear b1 i0;subst m3);go_cut [80] (fun t B=>t=.bool ((lv:Int) != K)∧RunW w M n f (.slice (some ⟨Gv,0,none⟩) oL oc) s.out D i B)
           case first =>
            clear j7 h6 i6 g6 d1 a8 d2 d3 c0 a0 g4 l2;go_quiet (fail);go_wp2;go_meet;exact⟨rfl,I.out.keep (yI (Zc _ _) _)⟩
           case rest =>
            obtain⟨rfl,R⟩:=hcut;clear hh b4 e4 c4 m2;by_cases a2:(lv:Int)=K
            ·have b2:k=z:=c3.out.trans (by rw [a1.out,Zf (fun h=>h a2)];rfl);subst b2;have m4:=lh R;have N:((lv:Int) != K)=false:=(by simp [a2]);clear a2 R;go_wp2;go_meet;exact⟨rfl,s.out,by rw [Zg b3],m4.out⟩
            ·have b2:k=oL:=c3.out.trans (by rw [a1.out,Zg a2];exact C.out);subst b2;have N:((lv:Int) != K)=true:=(by simpa using a2);obtain⟨ss,S,T⟩:=R.snoc;rw [C.out] at S T;have e0:=lh S;have e1:=lh T;have i1:=R.sz;clear S T a2;go_wp2_with (at_builtin;refine Zy _ rfl _ _ 218 rfl (M+1) 93 f3 (.slice none 0 0) 1 24 Tryz.underlying218 f4 f5 f6 f7 rfl (by decide) _ k _ rfl (e0.out.alloc _) ⟨wc,0,none⟩ 1 1 [.slice none 0 0] rfl rfl (JV _ _ _) (by simp [Value.oneCell']) (by unfold maxLen;omega) (by omega) (by simp;omega) ?_;intro Z w' ho hg _ F);go_meet;exact⟨rfl,s.out++[[]],by rw [Zf (by rw [C.out];omega)],e1.out _ _ _ ho hg F⟩
      case rest =>
       obtain⟨rfl,E,c5,e7⟩:=hcut;have c6:=put_out s k i (if d=10 then -1 else (i:Int)) (s.gone p f i k) (by rw [C.out];exact a0) E c5;have m5:(E.getD k []).length≤i:=by
        rw [c5];by_cases h:k<s.out.length
        ·rw [Zg h];exact (v.out.ok.run k h).2.2
        ·rw [Zf h,zI,zr (by omega)];have:k-s.out.length=0:=(by have:=C.out;omega);rw [this];simp
       have m6:E.length≤i+1:=by
        rw [c5];have:=C.out;split
        ·omega
        ·simp;omega
       have Y:Hid ((s.step p g f i).out=E.set k (E.getD k []++[i])):=lh (by rw [P.out];exact c6.1);have a3:Hid ((s.step p g f i).now=k):=lh (by rw [P.out];rfl);have a4:Hid ((s.step p g f i).last=if d=10 then -1 else (i:Int)):=lh (by rw [P.out];rfl);have a5:Hid ((s.step p g f i).goes=if yBk d=true∧0≤yH f i then ((yH f i).toNat,k)::s.goes else s.goes):=lh (by rw [P.out];show s.gone p f i k=_;unfold RSt.gone;rw [HY.out,k8.out]);obtain⟨Gn,m7,an,cn,m8,b4,a9,i5,e3,m9,o4,U,b6⟩:=e7.elem k i c6.2;subst m8;obtain⟨V,X⟩:=nm ((E.getD k []).length);obtain⟨oN,j2⟩:=nm (E.length);have b3:=c6.2;have i1:=e7.sz;rw [X] at b4 m9 U b6 m5;rw [j2] at e3 b3 m6 b6 ⊢;obtain⟨pn,j3⟩:=nm (E.set k (E.getD k []++[i]));rw [j3] at b6 Y;have j4:=lh U;have j5:=lh b6;have l8:(0:Int)≤(k:Int):=(by omega);have l9:(k:Int)<(oN:Int):=(by omega);have m0:(0:Int)≤(i:Int):=(by omega);have m1:(i:Int)<(n:Int):=(by omega);clear U b6 X j2 c6 c5 e7 j3 c2 b0 I a0 d1 a8 d2 d3 c0 i5 h6;go_upto_region 18 with fail;go_cut [95] (fun _ B=>RunW w M n f (.slice (some ⟨Gn,0,none⟩) oN m7) pn D i B)
       case first =>
        go_wp2_with (at_builtin;refine Zy _ rfl _ _ 93 rfl (M+1) 3 i3 (.int .i64 0) 1 8 Tryz.underlying93 j8 j9 k4 k5 rfl (by decide) _ V _ rfl (j4.out.alloc _) ⟨wc,0,none⟩ 1 1 [.int .i64 (i:Nat)] rfl rfl (JV _ _ _) (by simp [Value.oneCell']) (by unfold maxLen;omega) (by omega) (by simp;omega) ?_;intro Z w' ho hg _ F;obtain⟨x0,x1,x2⟩:=j5.out _ _ _ ho hg F;obtain⟨va,vc,n0,_,_⟩:=yP ho;subst n0);go_meet;exact x2
       case rest =>
       clear j4 j5 b4 a9;have u:=lh hcut;obtain⟨ob,e8⟩:=nm (yBk d);have a6:Hid (∀W,Calls Tryz.prog 179 #[.int .i8 d] W fun e w'=>e=.returned (.bool ob)∧W=w'):=lh fun W=>by rw [←e8];exact yr d W
       rw [e8] at a5;obtain⟨G1,e6,_,_,c4,_,_,_⟩:=yG.at u.out.prs i (by rw [f9];exact hi);cases e6;have N:=k6.out i;have a7:=lh v.out.mp;obtain⟨K,b5⟩:=nm (yH f i);rw [b5] at c4 a5 N;clear hcut e8 b5;cases ob with
       | false =>
         by_cases H:d=10
         ·subst H;go_wp2_with (go_at_call 179;refine (a6.out _).mono ?_;rintro e w' ⟨rfl,x⟩;subst x);go_roundw
          case rel=>exact⟨i+1,q,s.step p g f i,D,by rw [a3.out],by rw [a4.out];rfl,by go_num,O.out D _ _ (by rw [Y.out];exact⟨u.out.nest,u.out.map.mono (by omega),u.out.prs,u.out.lt,u.out.sz,u.out.bel⟩) (by rw [a5.out,Zf (by simp)];exact a7.out)⟩
          case measure=>simp [intOf];omega
         ·have j6:(d==10)=false:=(by simpa using H);go_wp2_with (go_at_call 179;refine (a6.out _).mono ?_;rintro e w' ⟨rfl,x⟩;subst x);go_roundw
          case rel=>exact⟨i+1,q,s.step p g f i,D,by rw [a3.out],by rw [a4.out];rw [Zf H],by go_num,O.out D _ _ (by rw [Y.out];exact⟨u.out.nest,u.out.map.mono (by omega),u.out.prs,u.out.lt,u.out.sz,u.out.bel⟩) (by rw [a5.out,Zf (by simp)];exact a7.out)⟩
          case measure=>simp [intOf];omega
       | true =>
         by_cases h0:0≤K
         ·obtain⟨pj,rfl⟩:∃pj:Nat,K=pj:=⟨K.toNat,by omega⟩;have b7:Hid ((s.step p g f i).goes=(pj,k)::s.goes):=lh (by rw [a5.out,Zg ⟨rfl,h0⟩,ZC]);by_cases H:d=10
          ·subst H;go_wp2_with (first | (go_at_call 179;refine (a6.out _).mono ?_;rintro e w' ⟨rfl,x⟩;subst x) | (at_mapUpdate;refine wpList_mapUpdate_own _ rfl _ _ _ 262 rfl 3 3 yOj Tryz.underlying262 _ M i D rfl u.out.map (by unfold maxLen;omega) _ _ _ rfl rfl (keyOf_int_mk Tryz.underlying3 (WalkArith.wf_i64 (by omega))) _ [] (plainElem_int Tryz.underlying3 (WalkArith.wf_i64 (by omega))) ?_;intro w2 e9 f0));go_roundw
           case rel=>exact⟨i+1,q,s.step p g f i,_,by rw [a3.out],by rw [a4.out];rfl,by go_num,O.out _ _ _ (by rw [Y.out];exact u.out.mapped e9 f0) (by rw [b7.out];exact a7.out.put pj k)⟩
           case measure=>simp [intOf];omega
          ·have j6:(d==10)=false:=(by simpa using H);go_wp2_with (first | (go_at_call 179;refine (a6.out _).mono ?_;rintro e w' ⟨rfl,x⟩;subst x) | (at_mapUpdate;refine wpList_mapUpdate_own _ rfl _ _ _ 262 rfl 3 3 yOj Tryz.underlying262 _ M i D rfl u.out.map (by unfold maxLen;omega) _ _ _ rfl rfl (keyOf_int_mk Tryz.underlying3 (WalkArith.wf_i64 (by omega))) _ [] (plainElem_int Tryz.underlying3 (WalkArith.wf_i64 (by omega))) ?_;intro w2 e9 f0));go_roundw
           case rel=>exact⟨i+1,q,s.step p g f i,_,by rw [a3.out],by rw [a4.out];rw [Zf H],by go_num,O.out _ _ _ (by rw [Y.out];exact u.out.mapped e9 f0) (by rw [b7.out];exact a7.out.put pj k)⟩
           case measure=>simp [intOf];omega
         ·have b7:Hid ((s.step p g f i).goes=s.goes):=lh (by rw [a5.out,Zf (fun h=>h0 h.2)]);by_cases H:d=10
          ·subst H;go_wp2_with (go_at_call 179;refine (a6.out _).mono ?_;rintro e w' ⟨rfl,x⟩;subst x);go_roundw
           case rel=>exact⟨i+1,q,s.step p g f i,D,by rw [a3.out],by rw [a4.out];rfl,by go_num,O.out D _ _ (by rw [Y.out];exact⟨u.out.nest,u.out.map.mono (by omega),u.out.prs,u.out.lt,u.out.sz,u.out.bel⟩) (by rw [b7.out];exact a7.out)⟩
           case measure=>simp [intOf];omega
          ·have j6:(d==10)=false:=(by simpa using H);go_wp2_with (go_at_call 179;refine (a6.out _).mono ?_;rintro e w' ⟨rfl,x⟩;subst x);go_roundw
           case rel=>exact⟨i+1,q,s.step p g f i,D,by rw [a3.out],by rw [a4.out];rw [Zf H],by go_num,O.out D _ _ (by rw [Y.out];exact⟨u.out.nest,u.out.map.mono (by omega),u.out.prs,u.out.lt,u.out.sz,u.out.bel⟩) (by rw [b7.out];exact a7.out)⟩
           case measure=>simp [intOf];omega
  ·have n3:m=0:=(by omega);subst n3;have v:=lh rel;clear rel;go_wp2;go_ret;have r:=v.out;have he:=r.eq;rw [yKt] at he;rw [g5.out,←he];exact⟨_,rfl,r.rw_.nest.base (by have:=r.rw_.lt;omega),r.rw_.bel⟩
end
section
open Go.RowKit
theorem nats_ints (l:List Nat):yDc l=(yg l).map (Value.int .i64):=by unfold yDc yg;simp [Function.comp_def]
theorem yAt (l:List Nat) (i:Nat):yH (yg l) i=((l.getD i 0:Nat):Int):=by
 unfold yH yg;rw [zI,zm,zI];cases l[i]? <;> rfl
theorem yZ (l:List Nat):(yg l).length=l.length:=by unfold yg;simp
theorem own_out {w:World} {base e n cap:Nat} {a:Option Addr} {l:List Nat} (h:w.ownsRow base e 1 (.slice a n cap) n (yDc l)) (b:l.length=n):yG .i64 e w base a cap (yg l):=by
 unfold yG;rw [yZ,b,←nats_ints];exact h
theorem ClI_any (G o n c L:Nat) (l:List Nat) (w:World) (p:l.length=L) (q:Rd .i64 w (some ⟨G,o,none⟩) (yg l)) (K:0<L) (M:L≤2097152) :
 Calls Tryz.prog 189 #[.slice (some ⟨G,o,none⟩) L c] w fun e w'=>∃a d,e=.returned (.slice a L d)∧yG .i64 3 w' w.heap.size a d (yg l)∧Below w w w':=by
 obtain⟨v,y,z,A,B⟩:=info_parts (Tryz.info_int);have r:∀j u,(yDc l)[j]? = some u→(w.alloc (.cells #[] 3)).cell? ((⟨G,o,none⟩:Addr).add j)=some u:=fun j u f=>by
  have s:j<l.length:=by
   rcases JP j l.length with h | h
   ·exact h
   ·rw [qD (by rw [nats_len];exact h)] at f;cases f
  obtain⟨b,N,e,O,C⟩:=q.at ((Zc w.heap.size w).alloc (zT _) (.cells #[] 3)) j (by rw [yZ];exact s);cases e;rw [nats_get l j s] at f;cases f;rw [JK,C,yAt]
 have D:=lh r;have t:=lh p;have P:∀(w:World) (a:Option Addr) (n c g d:Nat),(binOp .eql 93 (.slice a n c) (.slice none g d)).run Tryz.prog w=.ok (.bool a.isNone) w:=fun w a n c g d=>Lib.run_eql_slice_nil w _ _ a n c g d Tryz.underlying93;clear r p q;go_enter Tryz.func189,Tryz.ntmps189;go_wp2_with (at_builtin;refine wpList_append_own _ rfl _ _ 93 rfl w.heap.size 3 v (.int .i64 0) 1 8 Tryz.underlying93 y z A B rfl (by decide) _ _ _ rfl (World.ownsRow_made w #[] 0 (zT _) (zd _) (by simp)) ⟨G,o,none⟩ L c (yDc l) rfl (by rw [nats_len,t.out];omega) D.out (fun u i=>by unfold yDc at i;rw [ZG] at i;obtain⟨x,_,rfl⟩:=i;rfl) (by unfold maxLen;omega) (by omega) (by simp) ?_;intro Q w' m E _);obtain⟨F,H,I,_,_⟩:=yP m;subst I;go_ret;rw [Za,zp] at m;refine⟨F,H,by rw [Za];rfl,own_out m t.out,((Zc w.heap.size w).alloc (zT _) _).grown E (by simp) (fun k J=>by cases J;exact zT _)⟩
theorem SidesF_any (x:Int) (B:Nat) (n:Nat) (W:World) (a:W.cell? ⟨B,0,none⟩=some (.int .i64 n)) :
 Calls Tryz.prog 190 #[x,.pointer (some ⟨B,0,none⟩)] W fun e w'=>e=.returned (.bool (decide (x<0)||decide ((n:Int)≤x)))∧w'=W:=by
 go_enter Tryz.func190,Tryz.ntmps190;by_cases h0:x<0
 ·go_wp2;go_ret;exact⟨yAk (by simp [h0]),rfl⟩
 ·go_wp2;go_ret;exact⟨yAk (by rw [zP (show ¬ x<0 by omega)];rfl),rfl⟩
theorem IxF_any (a:Option Addr) (l:List Nat) (L c B n:Nat) (w:World) (d:l.length=L) (r:Rd .i64 w a (yg l)) (f:w.cell? ⟨B,0,none⟩=some (.int .i64 n)) (E:L≤2097152) (g:∀p∈l,p<n) :
 Calls Tryz.prog 211 #[.slice a L c,.func (.func 190) #[] #[.pointer (some ⟨B,0,none⟩)]] w fun e w'=>e=.returned (.int .i64 (-1))∧w'=w:=by
 have j:=lh d;have s:=lh g;have t:=lh f;clear d g f;go_enter Tryz.func211,Tryz.ntmps211;go_wp2;go_loopw [8] (fun u v=>∃i:Nat,i≤L∧u=.int .i64 i∧v=w) (fun u _=>L-(intOf u).toNat)
 case atStart=>exact⟨0,by omega,rfl,rfl⟩
 case round =>
  obtain⟨i,y,rfl,k⟩:=hrel;have z:=k.symm;clear k;subst z;by_cases A:i<L
  ·obtain⟨G,o,rfl,F,m⟩:=r.at (Zc _ _) i (by rw [yZ,j.out];exact A);rw [yAt] at m;obtain⟨x,b⟩:=nm (l.getD i 0);have H:x<n:=s.out x (by rw [←b,zI,zF (by have:=j.out;omega)];exact ZJ _);rw [b] at m;have C:Hid (Calls Tryz.prog 190 #[x,.pointer (some ⟨B,0,none⟩)] w fun e w'=>e=.returned (.bool false)∧w'=w):=lh ((SidesF_any x B n w t.out).mono fun e w' h=>⟨h.1.trans (yAk (by rw [zP (by omega),zP (by omega)];rfl)),h.2⟩);clear b;go_wp2_with (go_at_call 190;refine C.out.mono ?_;rintro e w' ⟨rfl,q⟩;have D:=q.symm;clear q;subst D);go_roundw
   case rel=>exact⟨i+1,by omega,by go_num,trivial⟩
   case measure=>simp [intOf];omega
  ·have I:i=L:=(by omega);clear y;go_wp2;go_ret;exact⟨rfl,rfl⟩
theorem DelF_any (a:Option Addr) (l:List Nat) (L c B n:Nat) (w:World) (b:l.length=L) (d:Rd .i64 w a (yg l)) (f:w.cell? ⟨B,0,none⟩=some (.int .i64 n)) (i:L≤2097152) (g:∀p∈l,p<n) :
 Calls Tryz.prog 188 #[.slice a L c,.func (.func 190) #[] #[.pointer (some ⟨B,0,none⟩)]] w fun e w'=>e=.returned (.slice a L c)∧w'=w:=by
 have j:=lh (IxF_any a l L c B n w b d f i g);clear b d f g;go_enter Tryz.func188,Tryz.ntmps188;go_wp2_with (go_at_call 211;refine j.out.mono ?_;rintro e w' ⟨rfl,h⟩;have k:=h.symm;clear h;subst k);go_ret;exact⟨rfl,rfl⟩
end
section
open Go.RowKit
theorem yK2 {a:List Nat} (h:∀l∈a,l≤125) (i:Nat):a.getD i 0≤125:=by
 rw [zI];cases hx:a[i]? with
 | none=>simp
 | some x=>exact h x (zS hx)
theorem aheadL_le (c:List Int) (a:List Nat) (base:Nat) (b:base≤125) (h:∀l∈a,l≤125):∀i,yGz c a base i≤125
 | 0=>b
 | i+1=>by
   rw [yGz];split
   ·exact b
   ·split
    ·exact aheadL_le c a base b h i
    ·exact yK2 h i
theorem yPm (b:List Int) (a:List Nat) (base:Nat) (c:base≤125) (h:∀l∈a,l≤125):∀m i,yD9 b a base m i≤125
 | 0,_=>c
 | m+1,i=>by
   rw [yD9];split
   ·exact yPm b a base c h m (i+1)
   ·exact yK2 h i
theorem bits_one (v:Nat) (h:v≤125):bits .and .u8 (v:Int) 1=((v % 2:Nat):Int):=by
 have:∀k:Fin 126,bits .and .u8 ((k:Nat):Int) 1=(((k:Nat) % 2:Nat):Int):=by decide
 exact this ⟨v,by omega⟩
def yKz (ds:List Int) (ls:List Nat) (base b n:Nat):Nat :=
 if (yBk (lkn (yH ds b))=false∨0≤yH (yDi ds) b)∧lkn (yH ds b)≠10 then yD9 ds ls base (n-(b+1)) (b+1) else base
theorem sidesI_at (b:List Int) (c a:List Nat) (base n:Nat) (f:b.length=n) (j:c.length=n) (d:a≠[]) (g:∀p∈a,p<n) :
 yKn b c base a=(((max (c.getD (a.getD 0 0) 0) (yGz b c base (a.getD 0 0)) % 2:Nat):Int),((max (c.getD (a.getLastD 0) 0) (yKz b c base (a.getLastD 0) n) % 2:Nat):Int)):=by
 unfold yKn yKz;have e:min b.length c.length=n:=by omega
 have h:b.take n=b:=by rw [←f];exact Zp
 have i:a.filter (fun p=>decide (p<n))=a:=List.filter_eq_self.2 fun p d=>by simpa using g p d
 simp only [e,h,i,Zf d]
theorem LSides_any (a la ra:Option Addr) (g:List Int) (i u:List Nat) (n cap lc rc L base:Nat) (w:World) (hl:g.length=n) (b9:i.length=n) (S:u.length=L)
 (hd:Rd .i8 w a g) (a9:Rd .u8 w la (yg i)) (hr:Rd .i64 w ra (yg u)) (hp:0<L) (hn:n≤2097152) (e0:L≤2097152) (k4:n≤cap) (k5:cap≤9223372036854775807)
 (Z:∀p∈u,p<n) (hb:base≤125) (b1:∀l∈i,l≤125) :
 Calls Tryz.prog 142 #[.slice a n cap,.slice la n lc,.int .u8 base,.slice ra L rc] w fun e w' =>
  e=.returned (.tuple #[.int .i8 (yKn g i base u).1,.int .i8 (yKn g i base u).2])∧Below w w w':=by
 have e1:u≠[]:=by intro e;rw [e] at S;simp at S;omega
 rw [sidesI_at g i u base n hl b9 e1 Z];obtain⟨M,c0⟩:∃M,L=M+1:=⟨L-1,by omega⟩;obtain⟨s,b2⟩:=nm (u.getD 0 0);obtain⟨f,c2⟩:=nm (u.getLastD 0);have c3:u.getD M 0=f:=by
  rw [←c2,JR,qx,S,c0,Ze,zI]
 have k6:s<n:=Z s (by rw [←b2,zI,zF (by omega)];exact ZJ _);have k7:f<n:=Z f (by rw [←c3,zI,zF (by omega)];exact ZJ _);rw [b2,c2];obtain⟨A,hA⟩:=nm (yGz g i base s);obtain⟨N,b3⟩:=nm (yKz g i base f n);have k8:A≤125:=by rw [←hA];exact aheadL_le g i base hb b1 s
 have k9:N≤125:=by
  rw [←b3];unfold yKz;split
  ·exact yPm g i base hb b1 _ _
  ·exact hb
 have f9:=yK2 b1 s;have g0:=yK2 b1 f;rw [hA,b3];obtain⟨xa,c4⟩:=nm (i.getD s 0);obtain⟨xb,c5⟩:=nm (i.getD f 0);rw [c4] at f9 ⊢;rw [c5] at g0 ⊢;obtain⟨m1,e2⟩:=nm (max xa A);obtain⟨m2,e3⟩:=nm (max xb N);rw [e2,e3];have c6:max (xa:Int) (A:Int)=(m1:Int):=by omega
 have c7:max (xb:Int) (N:Int)=(m2:Int):=by omega
 have E:=bits_one m1 (by omega);have b4:=bits_one m2 (by omega);have g1:((m1 % 2:Nat):Int)≤1:=by omega
 have g2:((m2 % 2:Nat):Int)≤1:=by omega
 have g3:0≤((m1 % 2:Nat):Int):=by omega
 have g4:0≤((m2 % 2:Nat):Int):=by omega
 generalize ((m1 % 2:Nat):Int)=q1 at E g1 g3 ⊢;generalize ((m2 % 2:Nat):Int)=q2 at b4 g2 g4 ⊢;have g5:=lh c4;have g6:=lh c5;have g7:=lh c6;have g8:=lh c7;have g9:=lh E;have h0:=lh b4;clear c4 c5 e2 e3 c6 c7 E b4;obtain⟨B,o,h1,l0,h2⟩:=hr.at (Zc _ _) 0 (by rw [yZ];omega);subst h1;obtain⟨J,a2⟩:∃J,J=w.alloc (.cells #[n] 3):=⟨_,rfl⟩;have c8:Below w w J:=by rw [a2];exact (Zc _ _).alloc (zT _) _
 have h3:J.heap.size=w.heap.size+1:=by rw [a2,zM]
 have e4:J.cell? ⟨w,0,none⟩=some (.int .i64 n):=by rw [a2];simp
 have e5:=ClI_any B o L rc L u J S (hr.below c8) hp e0;have HL:=lh hl;have b5:=lh b9;have b6:=lh S;have h4:=lh Z;have HA:=lh hA;have h5:=lh b3;have h6:=lh a2;have h7:=lh b2;have h8:=lh c3;have c9:=lh c0;have h9:=lh e5;have e6:=lh e4;have l1:((L:Int)==0)=false:=by simp;omega
 clear hl b9 S Z hA b3 a2 b2 c2 c3 c0 e5 e4 e1 h2;go_enter Tryz.func142,Tryz.ntmps142;go_upto_region 2 with fail;rw [←h6.out];go_upto_region 5 with (first | (go_at_call 189;refine h9.out.mono ?_;rintro e w1 ⟨a1,c1,rfl,b7,E⟩) | (go_at_call 188;refine (DelF_any a1 u L c1 w.heap.size n w1 b6.out b7.rd ((E.cell (p:=⟨w,0,none⟩) (by show w.heap.size<J.heap.size;omega)).trans e6.out) e0 h4.out).mono ?_;rintro e w' ⟨rfl,b⟩;have i0:=b.symm;clear b;subst i0));have d0:w1.cell? ⟨w,0,none⟩=some (.int .i64 n):=(E.cell (p:=⟨w,0,none⟩) (by show w.heap.size<J.heap.size;omega)).trans e6.out;obtain⟨G1,i1,_,l2,x0,_,i2,l3⟩:=b7.at 0 (by rw [yZ,b6.out];exact hp);subst i1;obtain⟨l4,i3,_,_,x1,_,_,_⟩:=b7.at M (by rw [yZ,b6.out];have:=c9.out;omega);cases i3;rw [yAt,h7.out] at x0;rw [yAt,h8.out] at x1;rw [yZ,b6.out] at i2;have i4:IntKind.i64.wrap ((L:Int)-1)=(M:Int):=by have:=c9.out;rw [ZH];omega
 have i5:(0:Int)≤(M:Int):=by omega
 have i6:(M:Int)<(L:Int):=by have:=c9.out;omega
 have i7:(0:Int)<(L:Int):=by omega
 have e7:Below w w w1:=c8.trans (E.mono (by omega));have e8:w.heap.size<w1.heap.size:=by have:=E.size;omega
 have i9:=lh e7;clear e7 c8 E h3;go_cut [12,13] (fun j0 j1 x=>j0=.int .i64 (s:Nat)∧j1=.int .i64 (f:Nat)∧Below w1 w1 x)
 case first =>
  clear d0;go_quiet (fail);go_wp2;go_meet;exact⟨rfl,rfl,yI (Zc _ _) _⟩
 case rest =>
 obtain⟨rfl,rfl,F⟩:=hcut;obtain⟨V,hV⟩:∃V,V=wc:=⟨_,rfl⟩;subst hV;have T:Hid (Below w w V):=lh (i9.out.trans (F.mono (by omega)));have e9:V.cell? ⟨w,0,none⟩=some (.int .i64 n):=(F.cell (p:=⟨w,0,none⟩) e8).trans d0;have j2:w.heap.size<V.heap.size:=by have:=F.size;omega
 clear F d0 x0 x1 i4 e8 b7 i5 i6 i7;go_upto_block 0 with fail;go_cut [14] (fun v x=>v=.int .u8 (A:Nat)∧x=V)
 case first =>
  go_wp2;go_loopw [14,16] (fun u14 u16 x=>∃(k:Nat) (z:Int),u14=.int .u8 (base:Nat)∧u16=.int .i64 z∧z+1=k∧k≤s∧yGz g i base k=A∧x=V) (fun _ c _=>(intOf c+1).toNat)
  case atStart=>exact⟨s,(s:Int)-1,rfl,by go_num,by omega,zT _,HA.out,rfl⟩
  case round =>
   obtain⟨k,z,rfl,rfl,f0,l5,q,C⟩:=hrel;have O:=C.symm;clear C;subst O;cases k with
   | zero =>
     have hz:z = -1:=(by omega);subst hz;rw [yGz] at q;clear f0;go_wp2;go_meet;exact⟨by rw [q],rfl⟩
   | succ k =>
     have hz:z=(k:Int):=(by omega);subst hz;rw [yGz] at q;clear f0;obtain⟨G,o,a3,j3,d1⟩:=hd.at T.out k (by have:=HL.out;omega);subst a3;obtain⟨G2,o2,P,f1,a4⟩:=a9.at T.out k (by have:=b5.out;rw [yZ];omega);subst P;rw [yAt] at a4;obtain⟨y,hy⟩:=nm (yH g k);rw [hy] at d1 q;obtain⟨d,Q⟩:=nm (lkn y);have X:Hid (∀W,Calls Tryz.prog 137 #[.int .i8 y] W fun e w'=>e=.returned (.int .i8 d)∧W=w'):=lh fun W=>by rw [←Q];exact yBw y W
     obtain⟨lb,R⟩:=nm (yDp d);have a5:Hid (∀W,Calls Tryz.prog 187 #[.int .i8 d] W fun e w'=>e=.returned (.bool lb)∧W=w'):=lh fun W=>by rw [←R];exact yM2 d W
     rw [Q] at q;rw [R] at q;obtain⟨lv,a6⟩:=nm (i.getD k 0);rw [a6] at a4 q;have H:=lh q;clear hy Q R a6 q;have j4:(0:Int)≤(k:Int):=(by omega);have j5:(k:Int)<(n:Int):=(by omega);by_cases D:d=10
     ·subst D;have e:=H.out;rw [Zg rfl] at e;have K:=lh e;clear e;go_wp2_with (go_at_call 137;refine (X.out _).mono ?_;rintro e w' ⟨rfl,b⟩;subst b);go_meet;exact⟨by rw [K.out],rfl⟩
     ·have j6:(d==10)=false:=(by simpa using D);have j7:(d != 10)=true:=(by simpa using D);have e:=H.out;rw [Zf D] at e;have K:=lh e;clear e D;cases lb with
      | true =>
        go_wp2_with (first | (go_at_call 137;refine (X.out _).mono ?_;rintro e w' ⟨rfl,b⟩;subst b) | (go_at_call 187;refine (a5.out _).mono ?_;rintro e w' ⟨rfl,b⟩;subst b));go_roundw
        case rel=>exact⟨k,(k:Int)-1,rfl,by go_num,by omega,by omega,by have:=K.out;rwa [Zg trivial] at this,trivial⟩
        case measure=>simp [intOf]
      | false =>
        go_wp2_with (first | (go_at_call 137;refine (X.out _).mono ?_;rintro e w' ⟨rfl,b⟩;subst b) | (go_at_call 187;refine (a5.out _).mono ?_;rintro e w' ⟨rfl,b⟩;subst b));go_meet;exact⟨by have:=K.out;rw [Zf (by decide)] at this;rw [this],rfl⟩
 case rest =>
 obtain⟨rfl,C⟩:=hcut;have O:=C.symm;clear C;subst O;obtain⟨G,o,a3,j3,d2⟩:=hd.at T.out f (by have:=HL.out;omega);subst a3;obtain⟨yb,d3⟩:=nm (yH g f);rw [d3] at d2;obtain⟨r,d4⟩:=nm (lkn yb);have a7:Hid (∀W,Calls Tryz.prog 137 #[.int .i8 yb] W fun e w'=>e=.returned (.int .i8 r)∧W=w'):=lh fun W=>by rw [←d4];exact yBw yb W
 obtain⟨Y,d5⟩:=nm (yBk r);have d6:Hid (∀W,Calls Tryz.prog 179 #[.int .i8 r] W fun e w'=>e=.returned (.bool Y)∧W=w'):=lh fun W=>by rw [←d5];exact yr r W
 have d7:=lh (yO2 (some ⟨G,o,none⟩) g n cap V HL.out (hd.below T.out) hn);unfold yJ4 at d7;obtain⟨pb,d8⟩:=nm (yH (yDi g) f);obtain⟨go,d9⟩:=nm ((!Y||decide (0≤pb)));have b8:=h5.out;unfold yKz at b8;rw [d3,d4,d5,d8] at b8;have f2:Hid ((if go=true∧r≠10 then yD9 g i base (n-(f+1)) (f+1) else base)=N):=lh (by
  rw [←b8,←d9];have e:((!Y||decide (0≤pb))=true∧r≠10)↔((Y=false∨0≤pb)∧r≠10):=(by simp);by_cases h:(Y=false∨0≤pb)∧r≠10
  ·rw [Zg h,Zg (e.2 h)]
  ·rw [Zf h,Zf (fun h'=>h (e.1 h'))])
 have f3:=lh d9;have l6:(0:Int)≤(f:Int):=by omega
 have l7:(f:Int)<(n:Int):=by omega
 have l8:(n:Int)≤(cap:Int):=by omega
 clear d3 d4 d5 b8 d9;go_upto_region 12 with fail;go_cut [88] (fun t x=>t=.bool go∧Below V V x)
 case first =>
  cases Y with
  | false =>
    go_wp2_with (first | (go_at_call 137;refine (a7.out _).mono ?_;rintro e w' ⟨rfl,b⟩;subst b) | (go_at_call 179;refine (d6.out _).mono ?_;rintro e w' ⟨rfl,b⟩;subst b));go_meet;exact⟨by rw [←f3.out];rfl,Zc _ _⟩
  | true =>
    go_wp2_with (first | (go_at_call 137;refine (a7.out _).mono ?_;rintro e w' ⟨rfl,b⟩;subst b) | (go_at_call 179;refine (d6.out _).mono ?_;rintro e w' ⟨rfl,b⟩;subst b) | (go_at_call 186;refine d7.out.mono ?_;rintro e w3 ⟨rfl,f4,f5,j8⟩;obtain⟨_,j9,_,_,k0,_⟩:=yG.at f5 f (by rw [f4];omega);cases j9;rw [d8] at k0;clear f4 f5));go_meet;exact⟨by rw [←f3.out];rfl,j8⟩
 case rest =>
 obtain⟨rfl,F⟩:=hcut;obtain⟨U,hU⟩:∃U,U=wc:=⟨_,rfl⟩;subst hU;have a8:Hid (Below w w U):=lh (T.out.trans (F.mono (by omega)));have k1:U.cell? ⟨w,0,none⟩=some (.int .i64 n):=(F.cell (p:=⟨w,0,none⟩) j2).trans e9;have k2:U.cell? ⟨G,o+f,none⟩=some (.int .i8 yb):=(F.cell (p:=⟨G,o+f,none⟩) (by show G<V.heap.size;omega)).trans d2;clear F e9 d2 d7 d6 d8 T;go_upto_if 88 with fail;go_cut [15] (fun v x=>v=.int .u8 (N:Nat)∧x=U)
 case first =>
  cases go with
  | false =>
    have e:=f2.out;rw [Zf (fun h=>by simp at h)] at e;have K:=lh e;clear e;go_wp2;go_meet;exact⟨by rw [K.out],rfl⟩
  | true =>
    have K:Hid ((if r=10 then base else yD9 g i base (n-(f+1)) (f+1))=N):=lh (by
     rw [←f2.out];by_cases h:r=10
     ·rw [Zg h,Zf (fun h'=>h'.2 h)]
     ·rw [Zf h,Zg ⟨rfl,h⟩])
    go_upto_block 2 with fail;go_wp2;go_loopw [15,17] (fun u15 u17 x=>∃j m:Nat,u15=.int .u8 (base:Nat)∧u17=.int .i64 (j:Nat)∧j+m=n∧(if r=10 then base else yD9 g i base m j)=N∧x=U) (fun _ c _=>n-(intOf c).toNat)
    case atStart=>exact⟨f+1,n-(f+1),rfl,by go_num,by omega,K.out,rfl⟩
    case round =>
     obtain⟨j,m,rfl,rfl,k3,I,C⟩:=hrel;have O:=C.symm;clear C;subst O;cases m with
     | zero =>
       have f6:j=n:=(by omega);rw [yD9] at I;have H:=lh I;subst f6;clear I k3;go_wp2_with (go_at_call 137;refine (a7.out _).mono ?_;rintro e w' ⟨rfl,b⟩;subst b);go_meet;exact⟨by have:=H.out;rw [ite_self] at this;rw [this],rfl⟩
     | succ m =>
       have f6:j<n:=(by omega);by_cases D:r=10
       ·subst D;rw [Zg rfl] at I;have H:=lh I;clear I;go_wp2_with (go_at_call 137;refine (a7.out _).mono ?_;rintro e w' ⟨rfl,b⟩;subst b);go_meet;exact⟨by rw [H.out],rfl⟩
       ·have j6:(r==10)=false:=(by simpa using D);have j7:(r != 10)=true:=(by simpa using D);rw [Zf D] at I;have q:=I;rw [yD9] at q;clear I;obtain⟨G4,o4,a3,l9,d1⟩:=hd.at a8.out j (by have:=HL.out;omega);cases a3;obtain⟨G2,o2,P,f1,a4⟩:=a9.at a8.out j (by have:=b5.out;rw [yZ];omega);subst P;rw [yAt] at a4;obtain⟨y,hy⟩:=nm (yH g j);rw [hy] at d1 q;obtain⟨d,Q⟩:=nm (lkn y);have X:Hid (∀W,Calls Tryz.prog 137 #[.int .i8 y] W fun e w'=>e=.returned (.int .i8 d)∧W=w'):=lh fun W=>by rw [←Q];exact yBw y W
        obtain⟨lb,R⟩:=nm (yDp d);have a5:Hid (∀W,Calls Tryz.prog 187 #[.int .i8 d] W fun e w'=>e=.returned (.bool lb)∧W=w'):=lh fun W=>by rw [←R];exact yM2 d W
        rw [Q] at q;rw [R] at q;obtain⟨lv,a6⟩:=nm (i.getD j 0);rw [a6] at a4 q;have H:=lh q;clear hy Q R a6 q;have j4:(0:Int)≤(j:Int):=(by omega);have j5:(j:Int)<(n:Int):=(by omega);go_upto_block 3 with (go_at_call 137;refine (a7.out _).mono ?_;rintro e w' ⟨rfl,b⟩;subst b);cases lb with
        | true =>
          go_wp2_with (first | (go_at_call 137;refine (X.out _).mono ?_;rintro e w' ⟨rfl,b⟩;subst b) | (go_at_call 187;refine (a5.out _).mono ?_;rintro e w' ⟨rfl,b⟩;subst b));go_roundw
          case rel=>exact⟨j+1,m,rfl,by go_num,by omega,by rw [Zf D];have:=H.out;rwa [Zg trivial] at this,trivial⟩
          case measure=>simp [intOf];omega
        | false =>
          go_wp2_with (first | (go_at_call 137;refine (X.out _).mono ?_;rintro e w' ⟨rfl,b⟩;subst b) | (go_at_call 187;refine (a5.out _).mono ?_;rintro e w' ⟨rfl,b⟩;subst b));go_meet;exact⟨by have:=H.out;rw [Zf (by decide)] at this;rw [this],rfl⟩
 case rest =>
 obtain⟨rfl,C⟩:=hcut;have O:=C.symm;clear C;subst O;go_upto_region 18 with fail;obtain⟨G2,o2,P,f1,f7⟩:=a9.at a8.out s (by have:=b5.out;rw [yZ];omega);subst P;obtain⟨G3,o3,P,m0,f8⟩:=a9.at a8.out f (by have:=b5.out;rw [yZ];omega);cases P;rw [yAt] at f7 f8;rw [g5.out] at f7;rw [g6.out] at f8;have c6:=g7.out;have c7:=g8.out;have E:=g9.out;have b4:=h0.out;have m3:(0:Int)≤(s:Int):=by omega
 have m4:(s:Int)<(n:Int):=by omega
 clear k1 k2;go_quiet (fail);go_wp2
 go_ret2
 exact⟨rfl,yI a8.out _⟩
end
section
open Go.Proofs Go.Shelf Go.RowKit Go.Lib Go.Sort
def ltP (a b:Nat × Nat):Bool:=decide (a.1<b.1)
theorem swo_ltP:SWO ltP where
 irrefl:=fun x=>by simp [ltP]
 trans:=fun x y z a b=>by simp [ltP] at *;omega
 ntrans:=fun x y z a b=>by simp [ltP] at *;omega
theorem yLb (d:Array (Nat × Nat)):(flatK yt 2 d).toList=d.toList.flatMap yt:=by
 apply qK;intro t;have g:(d.toList.flatMap yt).length=d.size*2:=by rw [yIz _ _ (fun _=>rfl)];simp
 by_cases a:t<d.size*2
 ·have c:(flatK yt 2 d).toList[t]? = some ((yt d[t / 2]!)[t % 2]!):=by
   rw [←get_flatK yt 2 d t a];simp [a]
  have b:=yJc d.toList (0,0) yt _ _ (fun _=>rfl) (t / 2) (by simp;omega);have f:d[t / 2]! = d.toList.getD (t / 2) (0,0):=by
   have:t / 2<d.size:=(by omega);simp [this]
  rw [c,f];rcases JH t with h0 | h0
  ·have e:t=t / 2*2:=(by omega);rw [h0,show (d.toList.flatMap yt)[t]? = (d.toList.flatMap yt)[t / 2*2]? by rw [←e],b.1];rfl
  ·have e:t=t / 2*2+1:=(by omega);rw [h0,show (d.toList.flatMap yt)[t]? = (d.toList.flatMap yt)[t / 2*2+1]? by rw [←e],b.2];rfl
 ·rw [qD (by simp;omega),qD (by omega)]
theorem take_put (F b:Array Value) (h:F.size≤b.size):(putCells id 0 F b).toList.take F.size=F.toList:=by
 apply qK;intro t;rw [zv];by_cases a:t<F.size
 ·rw [Zg a];have c:t<b.size:=(by omega);simp [putCells,a,c]
 ·rw [Zf a,qD (by simpa using a)]
theorem own_sorted {w:World} {base e g n c m:Nat} {xs:List Value} {a:Array Obj} (d:Array (Nat × Nat)) (b:d.size=n)
 (h:w.ownsRow base e 2 (.slice (some ⟨g,0,none⟩) n c) n xs) :
 (grow (putRowK yt 2 (Sort.ahead w m) g 0 d) a).ownsRow base e 2 (.slice (some ⟨g,0,none⟩) n c) n (d.toList.flatMap yt):=by
 obtain⟨u,l⟩:=h;rcases l with ⟨h0,_⟩ | ⟨v,cap,o,p,q,f,i,r,j,x⟩
 ·cases h0
 ·cases p;have s:g<w.heap.size:=(zH.1 f).1;refine⟨by rw [yIz _ _ (fun _=>rfl)];simp [b],.inr ⟨g,c,putCells id 0 (flatK yt 2 d) o,rfl,q,?_,i,r,by simp [putCells,j],?_⟩⟩
  ·show (grow (putRow id (Sort.ahead w m) g 0 (flatK yt 2 d)) a).heap[g]? = _;have t:(grow (putRow id (Sort.ahead w m) g 0 (flatK yt 2 d)) a).heap[g]? = (putRow id (Sort.ahead w m) g 0 (flatK yt 2 d)).heap[g]?:=by
    simp only [grow];rw [Array.getElem?_append_left (by rw [size_putRow];exact s)]
   rw [t];simp only [putRow,mapBlock,qr,if_true];show Option.map _ (w.heap[g]?)=_;rw [f];rfl
  ·have k:(flatK yt 2 d).size=n*2:=(by simp [b]);rw [←k,take_put _ _ (by rw [k,j];exact JM 2 i),yLb]
theorem grown_sorted {w:World} {g m:Nat} {a:Array Obj} (d:Array (Nat × Nat)):w.grownBy (grow (putRowK yt 2 (Sort.ahead w m) g 0 d) a) (some g):=by
 refine⟨rfl,rfl,rfl,by simp [grow,putRowK,putRow,mapBlock,Sort.ahead],fun k b c=>?_⟩;have f:g≠k:=fun e=>c (by rw [e]);simp only [grow];rw [Array.getElem?_append_left (by show k<(putRow id (Sort.ahead w m) g 0 (flatK yt 2 d)).heap.size;rw [size_putRow];exact b)];simp only [putRowK,putRow,mapBlock,qr,Zf f];rfl
theorem yQz (w:World) (a:Array Obj) (row:Option Nat):w.grownBy (grow w a) row :=
 ⟨rfl,rfl,rfl,by simp [grow],fun k b _=>by simp only [grow];rw [Array.getElem?_append_left b]⟩
noncomputable def svT:TypeInfo:=(Tryz.prog.info? 266).get (by kernel_rfl)
noncomputable def svE:TypeInfo:=(Tryz.prog.info? 96).get (by kernel_rfl)
theorem svK (n:Nat) (e:2≤n):Lib.swapperK n svE 17=9:=by
 have a:svE.hasPointers=false:=by kernel_rfl
 have b:svE.bytes=16:=by kernel_rfl
 have c:(n==0)=false:=by simp;omega
 have d:(n==1)=false:=by simp;omega
 simp [Lib.swapperK,a,b,c,d]
theorem less_pairs (b c d a:Nat) (W:World) (G:Nat→Int) (k:W.cell? ⟨d,0,none⟩=some (.slice (some ⟨b,0,none⟩) a c))
 (f:∀t,t<a→W.cell? ⟨b,t*2,none⟩=some (.int .i64 (G t))) (i j:Nat) (g:i<a) (h:j<a) (l:a<4611686018427387904) :
 Calls Tryz.prog 213 #[i,j,.pointer (some ⟨d,0,none⟩)] W fun e w'=>e=.returned (.bool (decide (G i<G j)))∧∃q,w'=W.drewN q:=by
 have m:=f i g;have n:=f j h;have o:(0:Int)≤(i:Int):=by omega
 have p:(i:Int)<(a:Int):=by omega
 have r:(0:Int)≤(j:Int):=by omega
 have s:(j:Int)<(a:Int):=by omega
 go_enter Tryz.func213,Tryz.ntmps213;go_wp2;go_quiet (fail);go_wp2;go_ret;exact⟨rfl,nq,rfl⟩
def SortPost (out:List (Nat × Nat)) (base:Nat) (ov:Value) (w:World) (e:Ending) (w':World):Prop :=
 e=.returned (.tuple #[])∧∃l:List (Nat × Nat),l.Perm out∧l.Pairwise (fun a b=>a.1≤b.1)∧w'.ownsRow base 96 2 ov out.length (l.flatMap yt)∧w.grownBy w' ov.ownBlock
theorem holdsK_of_own {w:World} {base e g c:Nat} (a:List (Nat × Nat)) (h:w.ownsRow base e 2 (.slice (some ⟨g,0,none⟩) a.length c) a.length (a.flatMap yt)) :
 HoldsK yt 2 w g 0 a.toArray:=by
 intro j b;rw [size_flatK] at b;have k:(a.flatMap yt).length=a.length*2:=yIz _ _ (fun _=>rfl);have d:j<(a.flatMap yt).length:=by rw [k];simpa using b
 have l:id (flatK yt 2 a.toArray)[j]! = (a.flatMap yt)[j]:=by
  have m:flatK yt 2 a.toArray=(a.flatMap yt).toArray:=by
   apply Array.ext';rw [yLb]
  rw [m];rw [id,JW _ _ (by simpa using d)];simp
 rw [l,Za];obtain⟨_,n⟩:=h;rcases n with ⟨h0,_⟩ | ⟨r,cap,f,o,s,i,t,u,v,p⟩
 ·cases h0
 ·cases o;have q:f[j]? = some ((a.flatMap yt)[j]):=by
   have:(f.toList.take (a.length*2))[j]? = (a.flatMap yt)[j]?:=(by rw [p]);rw [zv,Zg (by omega),zF d] at this;simpa using this
  exact⟨by simp [World.cell?,i,q],by simp [World.frozen?,i]⟩
theorem sort_call (k base:Nat) (d:List (Nat × Nat)) (o:Value) (w:World) (q:w.ownsRow base 96 2 o d.length (d.flatMap yt)) (D:w.cell? ⟨k,0,none⟩=some o) (V:k<base)
 (X:d.length<1099511627776) :
 Calls Tryz.prog 212 #[.iface 266 o,.func (.func 213) #[] #[.pointer (some ⟨k,0,none⟩)]] w (SortPost d base o w):=by
 have I:k<w.heap.size:=yD D;by_cases z:d.length≤1
 ·obtain⟨p,c,r⟩:∃p c,o=.slice p d.length c:=by
   rcases q.2 with ⟨h,h0⟩ | ⟨g,cap,J,h,_⟩
   ·exact⟨none,0,by rw [h,h0]⟩
   ·exact⟨_,_,h⟩
  have K:d.Pairwise (fun a b=>a.1≤b.1):=by
   match d,z with
   | [],_=>exact .nil
   | [x],_=>exact qt _ _
  have A:∃f,Tryz.prog.funcs.findIdx? (·.name == "internal/reflectlite" ++ ".Swapper$" ++ toString (Lib.swapperK d.length svE 17))=some f:=by
   match d,z with
   | [],_=>exact⟨240,by kernel_rfl⟩
   | [x],_=>exact⟨241,by kernel_rfl⟩
  obtain⟨f,A⟩:=A;subst r;refine (Any.sort_Slice_tiny (P:=Tryz.prog) Tryz.laysGg6 266 96 svT svE (by kernel_rfl) (by kernel_rfl) (by kernel_rfl) (by kernel_rfl) 17 (fun _=>by kernel_rfl) p d.length c z f A (.func 213) #[] #[.pointer (some ⟨k,0,none⟩)] w).mono ?_;rintro e w' ⟨rfl,s,rfl⟩;exact⟨rfl,d,List.Perm.refl _,K,q.kept (yQz _ _ none) (by cases h:(Value.slice p d.length c).ownBlock <;> simp),yQz _ _ _⟩
 ·obtain⟨g,c,r,Y⟩:∃g c,o=.slice (some ⟨g,0,none⟩) d.length c∧base≤g:=by
   rcases q.2 with ⟨h,h0⟩ | ⟨g,cap,J,h,L,_⟩
   ·omega
   ·exact⟨_,_,h,L⟩
  subst r;have B:g<w.heap.size:=(q.lt g rfl).2;have E:=holdsK_of_own d q;have M:LessReadsK Tryz.prog 213 #[.pointer (some ⟨k,0,none⟩)] yt 2 ltP g 0 d.toArray.size w:=by
   intro m s u F i j C y;have e:sortWorldK yt 2 w g 0 m u s=putRowK yt 2 (grow (Sort.ahead w m) s) g 0 u:=by
    unfold sortWorldK;rw [putRowK_grow _ _ (Sort.ahead w m) _ g 0 _ B]
   have N:HoldsK yt 2 (grow (Sort.ahead w m) s) g 0 d.toArray:=holdsK_grow _ _ _ _ g 0 _ B (holdsK_ahead _ _ _ _ _ _ _ E);have:=less_pairs g c k d.length (sortWorldK yt 2 w g 0 m u s) (fun t=>(u[t]!.1:Int)) ?_ (fun t Z=>?_) i j (by simpa using C) (by simpa using y) (by omega)
   ·refine this.mono ?_;rintro e w' ⟨rfl,O⟩;exact⟨by simp [ltP],O⟩
   ·rw [e,cell?_putRowK_other _ _ _ g 0 u _ (by show k≠g;omega),cell?_grow _ _ _ (by exact I)];exact D
   ·rw [e];have:=((holdsK_putRowK _ _ _ g 0 d.toArray u N F).cell (i:=t) (c:=0) (by simp at F;omega) (by omega)).1;rw [show (0+t*2+0:Nat)=t*2 by omega] at this;exact this
  have Q:=Any.sort_Slice_cells_sorted (P:=Tryz.prog) Tryz.laysGg6 266 96 svT svE (by kernel_rfl) (by kernel_rfl) (by kernel_rfl) (by kernel_rfl) 17 (fun _=>by kernel_rfl) yt 2 (fun _=>rfl) (by kernel_rfl) (fun _=>by kernel_rfl)
   (fun x v r=>by simp [yt] at r;rcases r with rfl | rfl <;> rfl) ltP swo_ltP 213 _
   (qJ Tryz.func213 (by kernel_rfl) rfl) g 0 c d.toArray (by simp;omega) (by simp;omega) 248 (by rw [svK _ (by simp;omega)];kernel_rfl) false
   (fun args W=>run_callFunc_extern Tryz.func248 (by kernel_rfl) (by kernel_rfl) (by kernel_rfl) (e:=Extern.ReflectliteSwapper.swap false) (by kernel_rfl) args W) w M E B
  refine Q.mono ?_;rintro e w' ⟨rfl,l,n,s,G,R,rfl⟩;have H:l.size=d.length:=(by simpa using G.1);refine⟨rfl,l.toList,?_,?_,own_sorted l H q,grown_sorted l⟩
  ·have:=G.2.2;rw [show l.extract 0 d.toArray.size=l by simp [←H],show d.toArray.extract 0 d.toArray.size=d.toArray by simp] at this;simpa using this
  ·rw [List.pairwise_iff_getElem];intro i j C y S;have:=R i j (zd _) S (by simp at y ⊢;omega);have T:i<l.size:=(by simpa using C);have U:j<l.size:=(by simpa using y);simp [ltP,T,U] at this;simpa using this
end
section
open Go.RowKit
def BrkPost (rs ks:List Int) (w:World) (e:Ending) (w':World):Prop :=
 ∃(v:Value) (l:List (Nat × Nat)),l.Perm (brkF rs ks (min rs.length ks.length) 0 [] [])∧l.Pairwise (fun a b=>a.1≤b.1)∧e=.returned v ∧
   w'.ownsRow w.heap.size 96 2 v l.length (l.flatMap yt)∧Below w w w'
theorem brk_end {c ks:List Int} {w wr w1:World} {a:List (Nat × Nat)} {b:Value} {M:Nat} (f:M=min c.length ks.length) (g:a=brkF c ks M 0 [] [])
 (i:Below w w wr) (q:w.heap.size+2≤wr.heap.size) (j:wr.ownsRow (w.heap.size+2) 96 2 b a.length (a.flatMap yt)) {e:Ending} (h:SortPost a (w.heap.size+2) b wr e w1) :
 BrkPost c ks w (.returned b) w1:=by
 obtain⟨_,l,d,m,n,o⟩:=h;subst f g;refine⟨b,l,d,m,rfl,?_,i.grown o (by omega) (fun k p=>by have:=(j.lt k p).1;omega)⟩;rw [d.length_eq];exact yq n (by omega)
def BrkRel (rs ks:List Int) (M:Nat) (w:World) (s c:Value) (wr:World):Prop :=
 ∃(i m:Nat) (st:List (Nat × Int)) (out:List (Nat × Nat)) (ov:Value),i+m=M∧c=.int .i64 i∧st.length≤63∧s=.slice (some ⟨w,0,none⟩) st.length 63∧out.length≤i ∧
   yB0 wr w.heap.size 297 126 (st.flatMap yJv)∧wr.cell? ⟨w.heap.size+1,0,none⟩=some ov∧wr.frozen? ⟨w.heap.size+1,0,none⟩=false ∧
   wr.ownsRow (w.heap.size+2) 96 2 ov out.length (out.flatMap yt)∧w.heap.size+2≤wr.heap.size∧Below w w wr ∧
   brkF rs ks m i st out=brkF rs ks M 0 [] []
theorem brkF_step (c ks:List Int) (m i:Nat) (a:List (Nat × Int)) (d:List (Nat × Nat)) (x y:Int) (b:Int × Bool × Bool) (l:yH c i=x) (n:yH ks i=y) (o:yA2 x=b) :
 (b.2.2=false∨y≠13→brkF c ks (m+1) i a d=brkF c ks m (i+1) a d) ∧
 (b.2.2=true→y=13→b.2.1=true→a.length=63→brkF c ks (m+1) i a d=d) ∧
 (b.2.2=true→y=13→b.2.1=true→a.length≠63→brkF c ks (m+1) i a d=brkF c ks m (i+1) (a++[(i,b.1)]) d) ∧
 (b.2.2=true→y=13→b.2.1=false→yDj a x a.length=none→brkF c ks (m+1) i a d=brkF c ks m (i+1) a d) ∧
 (∀k,b.2.2=true→y=13→b.2.1=false→yDj a x a.length=some k→brkF c ks (m+1) i a d=brkF c ks m (i+1) (a.take k) (d++[((a.getD k (0,0)).1,i)])):=by
 subst l n o;refine⟨fun h=>?_,fun e f g j=>?_,fun e f g j=>?_,fun e f g j=>?_,fun k e f g j=>?_⟩
 ·rw [brkF,Zg h]
 ·rw [brkF,Zf (by simp [e,f]),Zg g,Zg j]
 ·rw [brkF,Zf (by simp [e,f]),Zg g,Zf j]
 ·rw [brkF,Zf (by simp [e,f]),Zf (by simp [g])];simp only [j]
 ·rw [brkF,Zf (by simp [e,f]),Zf (by simp [g])];simp only [j]
theorem rel_push {w wr w1:World} {o:Obj} {f:List (Nat × Int)} {x:Nat × Int} {b:List (Nat × Nat)} {a:Value} {t g:Nat}
 (j:yB0 w1 w.heap.size t 126 (f.flatMap yJv++[.int .i64 x.1,.int .i32 x.2])) (c:(wr.alloc o).grownBy w1 (some w.heap.size))
 (l:wr.cell? ⟨w.heap.size+1,0,none⟩=some a) (m:wr.frozen? ⟨w.heap.size+1,0,none⟩=false)
 (h:wr.ownsRow (w.heap.size+2) g 2 a b.length (b.flatMap yt)) (q:w.heap.size+2≤wr.heap.size) (n:Below w w wr) :
 yB0 w1 w.heap.size t 126 ((f++[x]).flatMap yJv)∧w1.cell? ⟨w.heap.size+1,0,none⟩=some a∧w1.frozen? ⟨w.heap.size+1,0,none⟩=false ∧
 w1.ownsRow (w.heap.size+2) g 2 a b.length (b.flatMap yt)∧w.heap.size+2≤w1.heap.size∧Below w w w1:=by
 have i:∀k,k<wr.heap.size→k≠w.heap.size→w1.heap[k]? = wr.heap[k]?:=fun k d p =>
  (c.block k (by simp;omega) (by simpa using p)).trans (qA wr o k d)
 have r:wr.heap.size+1≤w1.heap.size:=by have:=c.size;simpa using this
 refine⟨by simpa [zU,yJv] using j,?_,?_,?_,by omega,?_⟩
 ·rw [JL (w:=wr) (i _ (by show w.heap.size+1<_;omega) (by show w.heap.size+1≠_;omega))];exact l
 ·rw [World.frozen?_of_block (w:=wr) (i _ (by show w.heap.size+1<_;omega) (by show w.heap.size+1≠_;omega))];exact m
 ·refine (h.alloc o).kept c ?_;cases hv:a.ownBlock with
  | none=>exact .inl rfl
  | some k=>exact .inr (by have:=(h.lt k hv).1;intro e;cases e;omega)
 ·exact (n.alloc (by omega) o).grown c (by simp;omega) (fun k d=>by cases d;omega)
theorem rel_close {w c w1:World} {l:List (Nat × Int)} {a:List (Nat × Nat)} {d:Value} {t f g i b cap qn n:Nat} {o:Obj}
 (p:w1.ownsRow (w.heap.size+2) f 2 (.slice (some ⟨b,0,none⟩) (a.length+1) cap) (a.length+1) (a.flatMap yt++[.int .i64 g,.int .i64 i]))
 (h:((c.drewN n).alloc o).grownBy w1 d.ownBlock) (z:d.ownBlock=some b∨b=c.heap.size+1) (A:b<w1.heap.size)
 (q:w1.cell? ⟨w.heap.size+1,0,none⟩=some d) (r:w1.frozen? ⟨w.heap.size+1,0,none⟩=false)
 (s:c.ownsRow (w.heap.size+2) f 2 d a.length (a.flatMap yt)) (u:yB0 c w.heap.size t 126 (l.flatMap yJv)) (B:w.heap.size+2≤c.heap.size) (v:Below w w c) :
 yB0 (w1.setCell ⟨w.heap.size+1,0,none⟩ (.slice (some ⟨b,0,none⟩) (a.length+1) cap)) w.heap.size t 126 ((l.take qn).flatMap yJv) ∧
 (w1.setCell ⟨w.heap.size+1,0,none⟩ (.slice (some ⟨b,0,none⟩) (a.length+1) cap)).cell? ⟨w.heap.size+1,0,none⟩=some (.slice (some ⟨b,0,none⟩) (a.length+1) cap) ∧
 (w1.setCell ⟨w.heap.size+1,0,none⟩ (.slice (some ⟨b,0,none⟩) (a.length+1) cap)).frozen? ⟨w.heap.size+1,0,none⟩=false ∧
 (w1.setCell ⟨w.heap.size+1,0,none⟩ (.slice (some ⟨b,0,none⟩) (a.length+1) cap)).ownsRow (w.heap.size+2) f 2 (.slice (some ⟨b,0,none⟩) (a.length+1) cap) (a++[(g,i)]).length ((a++[(g,i)]).flatMap yt) ∧
 w.heap.size+2≤(w1.setCell ⟨w.heap.size+1,0,none⟩ (.slice (some ⟨b,0,none⟩) (a.length+1) cap)).heap.size ∧
 Below w w (w1.setCell ⟨w.heap.size+1,0,none⟩ (.slice (some ⟨b,0,none⟩) (a.length+1) cap)):=by
 have C:c.heap.size+1≤w1.heap.size:=by have:=h.size;simpa using this
 have m:∀k,d.ownBlock=some k→w.heap.size+2≤k:=fun k j=>(s.lt k j).1;have x:w1.heap[w.heap.size]? = c.heap[w.heap.size]? :=
  (h.block _ (by simp;omega) (fun e=>by have:=m _ e.symm;omega)).trans (qA (c.drewN n) o _ (by show _<c.heap.size;omega))
 have y:Below w w w1:=((yI v n).alloc (by show _≤c.heap.size;omega) o).grown h (by simp;omega) (fun k j=>by have:=m k j;omega);refine⟨?_,?_,?_,?_,by simp [World.setCell];omega,y.setCell (by simp) _⟩
 ·rw [flat_take2 _ _ (fun _=>rfl)];exact (u.take (qn*2)).kept ((Below.heap_setCell _ _ _ _ (by show w.heap.size≠w.heap.size+1;omega)).trans x)
 ·exact yP0 q _
 ·exact frozen_set r _
 ·rw [zJ,ZM,zU];exact ownsRow_setCell_below p (by show w.heap.size+1<_;omega) _
theorem Brackets_any (ra ka:Option Addr) (j ks:List Int) (rc kc:Nat) (w:World) (hr:Rd .i32 w ra j) (hk:Rd .i8 w ka ks) (e1:j.length≤2097152) (e2:ks.length≤2097152) :
 Calls Tryz.prog 192 #[.slice ra j.length rc,.slice ka ks.length kc] w (BrkPost j ks w):=by
 obtain⟨M,hM⟩:∃M,M=min j.length ks.length:=⟨_,rfl⟩;have e3:M≤j.length:=by omega
 have e4:M≤ks.length:=by omega
 have U:=lh hM;clear hM;obtain⟨c0,c1,c2,c3,c4⟩:=info_parts (Tryz.info_two);obtain⟨c5,c6,_,c7,_⟩:=info_parts (Tryz.info_open);go_enter Tryz.func192,Tryz.ntmps192;go_wp2_with (fail)
 go_step3
 go_wp2_with (fail)
 go_step3
 go_upto_region 4 with fail;go_cut [18,19] (fun c8 c9 V=>c8=.int .i64 M∧c9=.int .i64 0∧V=(w.alloc (.cells Tryz.zeroCells297 297)).alloc (.cells #[.slice none 0 0] 266))
 case first =>
  go_wp2_with (fail)
  all_goals (go_meet;exact⟨by have:=U.out;go_num,rfl,rfl⟩)
 case rest =>
  obtain⟨rfl,rfl,rfl⟩:=hcut;go_wp2_with (fail);go_loopw [6,19] (fun s c wr=>BrkRel j ks M w s c wr) (fun _ c _=>M-(intOf c).toNat)
  case atStart =>
   refine⟨0,M,[],[],.slice none 0 0,by omega,rfl,by simp,rfl,by simp,⟨Tryz.zeroCells297,?_,?_,rfl,by simp⟩,?_,?_,Zx _ _ _ _,by simp,((Zc _ _).alloc (zT _) _).alloc (by simp) _,rfl⟩
   ·rw [qA _ _ _ (by simp)];exact JS w _
   ·as_aux_lemma=>kernel_rfl
   ·have:=JS (w.alloc (.cells Tryz.zeroCells297 297)) (.cells #[.slice none 0 0] 266);rw [zM] at this;unfold World.cell?;rw [this];rfl
   ·have:=JS (w.alloc (.cells Tryz.zeroCells297 297)) (.cells #[.slice none 0 0] 266);rw [zM] at this;unfold World.frozen?;rw [this];rfl
  case round =>
   obtain⟨i,m,b,p,f,a4,rfl,W,rfl,e5,v,z,G,d,C,A,hF⟩:=hrel;have B:=lh a4;clear a4;have D:=lh hF;clear hF;by_cases a5:i<M
   ·obtain⟨rb,ro,rfl,d0,d1⟩:=hr.at A i (by omega);obtain⟨kb,ko,rfl,d2,d3⟩:=hk.at A i (by omega);obtain⟨m,rfl⟩:∃q,m=q+1:=⟨m-1,by have:=B.out;omega⟩;have a6:=fun (x y:Int) (P:Int × Bool × Bool) (Q:yH j i=x) (R:yH ks i=y) (H:yA2 x=P)=>brkF_step j ks m i b p x y P Q R H;have HS:=lh a6;clear a6;generalize Q:yH j i=x at d1;generalize R:yH ks i=y at d3;have HX:=lh Q;have HY:=lh R;clear Q R;have E:=lh (Pair_any x);unfold yKw at E;generalize hpr:yA2 x=P at E;have d4:=lh hpr;clear hpr;obtain⟨other,d5,ok⟩:=P;have r:=HS.out x y _ HX.out HY.out d4.out;clear HS;cases ok
    ·-- no bracket
     have u:=lh (r.1 (.inl rfl));clear r;go_wp2_with (go_at_call 170;refine (E.out _).mono ?_;rintro e w' ⟨rfl,rfl⟩);go_roundw
     case rel=>exact⟨i+1,m,b,p,f,by have:=B.out;omega,by go_num,W,rfl,by omega,v,z,G,d,C,A,by rw [←D.out,u.out]⟩
     case measure=>simp [intOf];omega
    ·by_cases I:y=13
     ·subst I;cases d5
      ·-- a closing one
       clear d0 d2;have d6:=lh (r.2.2.2.1 rfl rfl rfl);have d7:=lh (fun k=>r.2.2.2.2 k rfl rfl rfl);clear r;go_wp2_with (go_at_call 170;refine (E.out _).mono ?_;rintro e w' ⟨rfl,rfl⟩);obtain⟨g,rfl⟩:∃g:World,g=wr:=⟨_,rfl⟩;go_loopw [6,12] (fun s c V=>∃(q:Int) (nq:Nat),s=.slice (some ⟨w,0,none⟩) b.length 63 ∧ -1≤q∧q<b.length∧c=.int .i64 q∧V=g.drewN nq∧yDj b x b.length=yDj b x (q+1).toNat) (fun _ c _=>(intOf c+1).toNat)
       case atStart=>exact⟨(b.length:Int)-1,0,rfl,by omega,by omega,rfl,rfl,by rw [show ((b.length:Int)-1+1).toNat=b.length by omega]⟩
       case round =>
        obtain⟨q,nq,rfl,e6,e7,rfl,rfl,a7⟩:=hrel;have X:=lh a7;clear a7;by_cases hq:0≤q
        ·have a8:=v.cell (q.toNat*2) _ (yJc b (0,0) yJv _ _ (fun _=>rfl) q.toNat (by omega)).1;have S:=v.cell (q.toNat*2+1) _ (yJc b (0,0) yJv _ _ (fun _=>rfl) q.toNat (by omega)).2;obtain⟨qn,rfl⟩:=Int.eq_ofNat_of_zero_le hq;rw [ZC] at a8 S;have g1:(0:Int)≤(i:Int):=(by omega);have g2:(i:Int)<(j.length:Int):=(by omega);have F:yDj b x (qn+1)=if (b.getD qn (0,0)).2=x then some qn else yDj b x qn:=rfl;generalize hget:b.getD qn (0,0)=tp at a8 S F;have d8:=lh hget;clear hget;obtain⟨Y,a9⟩:=tp;by_cases J:a9=x
         ·subst J;rw [Zg rfl] at F;have Z:=lh F;clear F;have u:=lh (d7.out qn (by rw [X.out,show ((qn:Int)+1).toNat=qn+1 by omega];exact Z.out));go_wp2_with (fail);go_quiet (fail);go_wp2_with (fail);have ag:f.ownBlock≠some (w.heap.size+1):=fun e=>by have:=(d.lt _ e).1;omega
          have ar:f.ownBlock≠some w.heap.size:=fun e=>by have:=(d.lt _ e).1;omega
          have b0:=lh d;clear d;have b1:∀(n:Nat) (o:Obj),((g.drewN n).alloc o).cell? ⟨w.heap.size+1,0,none⟩=some f:=fun n o=>by
           rw [JL (w:=g) (qA (g.drewN n) o (w.heap.size+1) (by show _<g.heap.size;omega))];exact z
          have b2:∀(n:Nat) (o:Obj),((g.drewN n).alloc o).frozen? ⟨w.heap.size+1,0,none⟩=false:=fun n o=>by
           rw [World.frozen?_of_block (w:=g) (qA (g.drewN n) o (w.heap.size+1) (by show _<g.heap.size;omega))];exact G
          go_region_law
           ((refine step_append_lies _ (by rfl) _ _ _ (by rfl) (w.heap.size+2) 96 c0 _ 2 16 Tryz.underlying266 c1 c2 c3 c4 rfl (by omega) f p.length (p.flatMap yt) (by rfl) (by exact yJz (b0.out.alloc _) _)
              ⟨g,0,none⟩ 1 1 [Y,i] (by rfl) (by rfl) (World.news_of_block (cs:=#[Y,i]) (t:=96) (fr:=(0,0)) (JS _ _)) (by simp [Value.oneCell'])
              (by omega) (by unfold maxLen;omega) (by omega) (by simp;omega) (g.heap.size+1) (by simp) ?_;intro gg cap w1 b3 T b4 a5;have b5:w1.cell? ⟨w.heap.size+1,0,none⟩=some f:=(T.cell_far _ (by first | (simp;done) | (simp;omega)) (Ne.symm ag)).trans (b1 _ _);have b6:w1.frozen? ⟨w.heap.size+1,0,none⟩=false:=(T.frozen_far _ (by first | (simp;done) | (simp;omega)) (Ne.symm ag)).trans (b2 _ _)))
          all_goals
           have h:=rel_close (qn:=qn) b3 T b4 a5 b5 b6 b0.out v C A;clear b3 T b4 b5 b6 b1 b2;go_wp2_with (fail);go_roundw
           case rel=>exact⟨i+1,m,b.take qn,p++[(Y,i)],_,by have:=B.out;omega,by go_num,by rw [za];omega,by rw [za,Nat.min_eq_left (by omega)],by rw [zJ,ZM];omega,h.1,h.2.1,h.2.2.1,h.2.2.2.1,h.2.2.2.2.1,h.2.2.2.2.2,by rw [←D.out,u.out,d8.out]⟩
           case measure=>simp [intOf];omega
         ·rw [Zf J] at F;have Z:=lh F;clear F;have e8:(a9==x)=false:=(by simpa using J);have HC:=lh J;clear J;go_wp2_with (fail);go_quiet (fail);go_wp2_with (fail);go_roundw
          case rel=>exact⟨(qn:Int)-1,_,rfl,by omega,by omega,rfl,rfl,by rw [X.out,show ((qn:Int)+1).toNat=qn+1 by omega,Z.out];exact Zb _ (by omega)⟩
          case measure=>simp [intOf]
        ·have u:=lh (d6.out (by rw [X.out,show (q+1).toNat=0 by omega];rfl));go_wp2_with (fail);go_roundw
         case rel=>exact⟨i+1,m,b,p,f,by have:=B.out;omega,by go_num,W,rfl,by omega,v,z,G,yJz d _,C,yI A _,by rw [←D.out,u.out]⟩
         case measure=>simp [intOf];omega
      ·-- an opening one
       by_cases K:b.length=63
       ·have u:=lh (r.2.1 rfl rfl rfl K);clear r;have d9:((b.length:Int)==63)=true:=(by rw [K];rfl);have e9:=lh K;clear K;go_wp2_with (go_at_call 170;refine (E.out _).mono ?_;rintro e w' ⟨rfl,rfl⟩);change Calls Tryz.prog 212 _ _ _;have a0:w.heap.size+1<wr.heap.size:=(by omega);refine (sort_call (w.heap.size+1) (w.heap.size+2) p f _ (by exact d) (by exact z) (by omega) (by omega)).mono ?_;intro e w1 L;have a1:f.ownBlock≠some (w.heap.size+1):=fun e=>by have:=(d.lt _ e).1;omega
        have N:=brk_end (e:=e) U.out (by rw [←D.out,u.out]) A C d L;obtain⟨rfl,l,H,a2,ho,O⟩:=L;have S:w1.cell? ⟨w.heap.size+1,0,none⟩=some f:=(O.cell_far _ (by exact a0) (Ne.symm a1)).trans z;clear H a2 ho O d v;have a3:=lh N;clear N;go_wp2_with (fail);rw [Exit.noGoto_ret];go_ret;exact a3.out
       ·have u:=lh (r.2.2.1 rfl rfl rfl K);clear r;have d9:((b.length:Int)==63)=false:=(by simp;omega);go_wp2_with (first | (go_at_call 170;refine (E.out _).mono ?_;rintro e w' ⟨rfl,rfl⟩) | (at_builtin;refine yFq _ rfl _ _ 298 rfl 296 c5 2 Tryz.underlying298 c6 c7 w.heap.size 297 126 b.length 63 (b.flatMap yJv) rfl (v.kept (qA _ _ _ (by omega))) (yIz _ yJv (fun _=>rfl)) ⟨wr,0,none⟩ 1 1 [i,.int .i32 other] rfl rfl (World.news_of_block (cs:=#[i,.int .i32 other]) (t:=296) (fr:=(0,0)) (JS _ _)) (by simp [Value.oneCell']) (by omega) (by omega) ?_;intro w1 b7 b8));have h:=rel_push (x:=(i,other)) b7 b8 z G d C A;clear b7 b8;go_roundw
        case rel=>exact⟨i+1,m,b++[(i,other)],p,f,by have:=B.out;omega,by go_num,by rw [zJ,ZM];omega,by simp,by omega,h.1,h.2.1,h.2.2.1,h.2.2.2.1,h.2.2.2.2.1,h.2.2.2.2.2,by rw [←D.out,u.out]⟩
        case measure=>simp [intOf];omega
     ·have u:=lh (r.1 (.inr I));clear r;have f0:(y != 13)=true:=(by simpa using I);have f1:=lh I;clear I;go_wp2_with (go_at_call 170;refine (E.out _).mono ?_;rintro e w' ⟨rfl,rfl⟩);go_roundw
      case rel=>exact⟨i+1,m,b,p,f,by have:=B.out;omega,by go_num,W,rfl,by omega,v,z,G,d,C,A,by rw [←D.out,u.out]⟩
      case measure=>simp [intOf];omega
   ·have f2:i≤M:=(by have:=B.out;omega);have b9:m=0:=(by have:=B.out;omega);have e0:Hid (p=brkF j ks M 0 [] []):=(by subst b9;exact D);clear b9;go_wp2_with (fail);change Calls Tryz.prog 212 _ _ _;have a0:w.heap.size+1<wr.heap.size:=(by omega);refine (sort_call (w.heap.size+1) (w.heap.size+2) p f _ (by exact d) (by exact z) (by omega) (by omega)).mono ?_;intro e w1 L;have a1:f.ownBlock≠some (w.heap.size+1):=fun e=>by have:=(d.lt _ e).1;omega
    have N:=brk_end (e:=e) U.out e0.out A C d L;obtain⟨rfl,l,H,a2,ho,O⟩:=L;have S:w1.cell? ⟨w.heap.size+1,0,none⟩=some f:=(O.cell_far _ (by exact a0) (Ne.symm a1)).trans z;clear H a2 ho O d v;have a3:=lh N;clear N;go_wp2_with (fail);rw [Exit.noGoto_ret];go_ret;exact a3.out
theorem Brackets_len (b c:Option Addr) (a ks:List Int) (d e f g:Nat) (w:World) (h:a.length=d) (i:ks.length=e) (j:Rd .i32 w b a) (k:Rd .i8 w c ks) (l:d≤2097152) (m:e≤2097152) :
 Calls Tryz.prog 192 #[.slice b d f,.slice c e g] w (BrkPost a ks w):=by
 subst h i;exact Brackets_any b c a ks f g w j k l m
end
end Go.Proofs.YtncplikdjcmoeaaGreatDoor
