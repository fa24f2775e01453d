/- Lemmas, part 9: no further condition than each states. -/
import Derived.Test.YtncplikdjcmoeaaGreatDoorQ08
namespace Go.Proofs.YtncplikdjcmoeaaGreatDoor
set_option linter.unusedVariables false
set_option linter.unusedSimpArgs false
set_option maxRecDepth 100000
set_option maxHeartbeats 4000000
section
open Go.RowKit
theorem Tryz.info_kind:(Tryz.prog.info? 22).map (fun i=>(i.zero,i.size,i.bytes))=some (some (.int .i8 0),1,1):=by kernel_rfl
theorem yFe:∀l:Nat,l<256→bits .and .u8 (l:Int) 1=((l % 2:Nat):Int):=by decide +kernel
theorem ints_one (k:IntKind) (l:List Int):∀u∈l.map (Value.int k),u.oneCell'=true:=by
 intro u a;obtain⟨x,_,rfl⟩:=ZG.1 a;rfl
theorem rd_cells {k:IntKind} {w:World} {a:Option Addr} {xs:List Int} (h:Rd k w a xs) (m:Nat) (i:m≤xs.length) :
 m=0∨∃d,a=some d∧∀j u,((xs.take m).map (Value.int k))[j]? = some u→w.cell? (d.add j)=some u:=by
 rcases h with h | ⟨b,f,l,o,n⟩
 ·subst h;left;simpa using i
 ·refine .inr ⟨_,l,fun j u c=>?_⟩;rw [zm,zv] at c;by_cases g:j<m
  ·rw [Zg g,yLa (by omega)] at c;simp at c;subst c;have e:(⟨b,f,none⟩:Addr).add j=⟨b,f+j,none⟩:=(by unfold Addr.add;split <;> simp_all);rw [e];exact n j (by omega)
  ·rw [Zf g] at c;simp at c
theorem Rd.take {k:IntKind} {w:World} {a:Option Addr} {xs:List Int} (h:Rd k w a xs) (m:Nat):Rd k w a (xs.take m):=by
 rcases h with h | ⟨b,c,d,e,f⟩
 ·subst h;exact .inl (by simp)
 ·refine .inr ⟨b,c,d,e,fun i g=>?_⟩;rw [za] at g;rw [f i (by omega)];have:yH (xs.take m) i=yH xs i:=(by unfold yH;rw [zI,zI,zv,Zg (by omega)]);rw [this]
theorem out_start {w:World} {base e M:Nat} {v:Value} {ks:List Int} (h:w.ownsRow base e 1 v (0+M) ([]++(ks.take M).map (Value.int .i8))) (b:M≤ks.length) :
 ∃a cap,v=.slice a M cap∧yG .i8 e w base a cap (ks.take M):=by
 rw [Za,zp] at h;exact yG.of h (by simp;omega)
theorem pairs_in {a b:List Int} {M:Nat} {l:List (Nat × Nat)} (c:l.Perm (brkF (a.take M) b (min (a.take M).length b.length) 0 [] [])) (d:(a.take M).length=M) (e:b.length=M) :
 ∀t,t<l.length→(l.getD t (0,0)).1<(l.getD t (0,0)).2∧(l.getD t (0,0)).2<M:=by
 intro t f;have:=yH1 (a.take M) b (min (a.take M).length b.length) 0 [] [] (by simp) (by simp) _ (c.mem_iff.1 (yP7 l (0,0) t f));rw [d,e] at this;omega
theorem drop_cons {α:Type} (l:List α) (d:α) (t:Nat) (h:t<l.length):l.drop t=l.getD t d::l.drop (t+1):=by
 rw [qT h];simp [h]
def PairRel (rs:List Int) (M:Nat) (E:Int) (B2:Nat) (w:World) (ao:Option Addr) (cap:Nat) (pa:Option Addr) (pcap:Nat) (l:List (Nat × Nat)) (RES:List Int) (sa sh sc:Value) (wx:World):Prop :=
 ∃(t at':Nat) (ahead:Int) (xs:List Int),t≤l.length∧sa=.int .i64 at'∧at'≤M∧sh=.int .i8 ahead∧0≤ahead∧ahead≤1∧sc=.int .i64 t∧xs.length=M ∧
   yG .i8 22 wx w.heap.size ao cap xs∧yBe wx B2 pa pcap l∧Below w w wx∧B2≤wx.heap.size∧resF rs M E (l.drop t) at' ahead xs=RES
theorem wayI_bd (y:Int) : -1≤yCc y∧yCc y≤1:=by
 unfold yCc;split
 ·omega
 ·split <;> omega
theorem decF_bd (xs:List Int) (e a:Int) (h0:0≤e) (d:e≤1) (f:0≤a) (c:a≤1):∀(m i:Nat) (b:Int),-1≤b→b≤1 → -1≤yOz xs e a m i b∧yOz xs e a m i b≤1
 | 0,_,b,h,h'=>⟨h,h'⟩
 | m+1,i,b,h,h'=>by
   unfold yOz;split
   ·omega
   ·split
    ·exact decF_bd xs e a h0 d f c m (i+1) b h h'
    ·exact decF_bd xs e a h0 d f c m (i+1) a (by omega) c
theorem decI_bd (xs:List Int) (b c:Nat) (e a:Int) (h0:0≤e) (d:e≤1) (f:0≤a) (g:a≤1) : -1≤decI xs b c e a∧decI xs b c e a≤1 :=
 decF_bd xs e a h0 d f g _ _ (-1) (by omega) (by omega)
theorem pairs_len {base cap:Nat} {w:World} {a:Option Addr} {l:List (Nat × Nat)} (h:yBe w base a cap l):l.length≤maxLen:=by
 rcases h.2 with ⟨b,h0⟩ | ⟨g,e,f,b,i,j,c,d,k,m⟩
 ·rw [h0];exact zd _
 ·exact zY c d
theorem runF_bd (a:List Int):∀(m j:Nat),j≤yJq a m j∧yJq a m j≤j+m
 | 0,j=>⟨zT _,zT _⟩
 | m+1,j=>by
   unfold yJq;split
   ·have:=runF_bd a m (j+1);omega
   ·omega
theorem restF_out (n:Nat) (e b c:Int) (f i:Nat) (a:List Int) (d:i<n) :
 (0≤yCc (yH a i)→yGr n e b c (f+1) i a=yGr n e b c f (i+1) a) ∧
 (yCc (yH a i)<0→yGr n e b c (f+1) i a=yGr n e b c f (yJq a (n-i) i) (yO5 (fillI n e b c i (yJq a (n-i) i) a) (yJq a (n-i) i-i) i a)):=by
 refine⟨fun h=>?_,fun h=>?_⟩
 ·rw [yGr,Zg d,Zg h]
 ·rw [yGr,Zg d,Zf (by omega)]
def ResPost (rs ks:List Int) (level sos eos:Int) (w:World) (e:Ending) (w':World):Prop :=
 ∃(v:Value) (l:List (Nat × Nat)),l.Perm (brkF (rs.take (min rs.length ks.length)) (alF (min rs.length ks.length) 0 (ks.take (min rs.length ks.length))) (min rs.length ks.length) 0 [] [])∧l.Pairwise (fun a b=>a.1≤b.1) ∧
   e=.returned v∧(yIf rs ks level sos eos l).length=min rs.length ks.length∧w'.ownsRow w.heap.size 22 1 v (min rs.length ks.length) ((yIf rs ks level sos eos l).map (Value.int .i8))∧Below w w w'
theorem res_end {c ks k d xs f m n:List Int} {h M cap:Nat} {g i E:Int} {l:List (Nat × Nat)} {w w':World} {o:Option Addr} {e:Ending}
 (p:M=min c.length ks.length) (q:ks.take M=k) (r:d=alF M 0 k) (v:((h % 2:Nat):Int)=E) (s:l.Perm (brkF (c.take M) d (min (c.take M).length d.length) 0 [] []))
 (x:l.Pairwise (fun a b=>a.1≤b.1)) (y:(c.take M).length=M) (z:d.length=M) (A:m=resF c M E l 0 (yC6 g) d) (B:xs=m)
 (C:n=yGr M E (yC6 g) (yC6 i) (M+1) 0 xs) (D:f=n) (F:e=.returned (.slice o M cap)) (t:f.length=M) (j:yG .i8 22 w' w.heap.size o cap f) (G:Below w w w') :
 ResPost c ks h g i w e w':=by
 have u:f=yIf c ks h g i l:=by
  rw [D,C,B,A,r,←q,←v,p];rfl
 subst p;refine⟨_,l,?_,x,F,by rw [←u];exact t,?_,G⟩
 ·rw [y,z,Nat.min_self] at s;rw [q,←r];exact s
 ·rw [←u];unfold yG at j;rw [t] at j;exact j
theorem Resolve_any (ra ka:Option Addr) (o ks:List Int) (rc kc:Nat) (K:Nat) (V a5:Int) (w:World) (hr:Rd .i32 w ra o) (hk:Rd .i8 w ka ks) (t0:o.length≤2097152) (t1:ks.length≤2097152)
 (t2:o.length≤rc) (t3:ks.length≤kc) (hl:K<256) :
 Calls Tryz.prog 143 #[.slice ra o.length rc,.slice ka ks.length kc,.int .u8 K,.int .i8 V,.int .i8 a5] w (ResPost o ks K V a5 w):=by
 obtain⟨M,hM⟩:∃M,M=min o.length ks.length:=⟨_,rfl⟩;have t4:M≤o.length:=by omega
 have h9:M≤ks.length:=by omega
 have HM:=lh hM;clear hM;obtain⟨o3,o4,o5,o6,o7⟩:=info_parts (Tryz.info_kind);have i0:=rd_cells hk M h9;have i1:((ks.take M).map (Value.int .i8)).length=M*1:=by simp;omega
 have i2:=lh i1;clear i1;go_enter Tryz.func143,Tryz.ntmps143;go_upto_region 1 with fail;go_cut [11] (fun o8 k=>o8=.int .i64 M∧k=w)
 case first =>
  go_wp2_with (fail)
  all_goals (go_meet;exact⟨by have:=HM.out;go_num,rfl⟩)
 case rest =>
  obtain⟨rfl,v⟩:=hcut;have L:=v.symm;clear v;subst L;go_wp2_with (at_builtin;refine yDh _ rfl (.const (.slice none 0 0)) (.tmp 36) 123 rfl w.heap.size 22 o3 (.int .i8 0) 1 1 Tryz.underlying123 o4 o5 o6 o7 rfl (by decide) (.slice none 0 0) 0 [] rfl (Zx _ _ _ _) _ M _ ((ks.take M).map (Value.int .i8)) rfl i2.out i0 (ints_one _ _) (by unfold maxLen;omega) (by omega) (zT _) ?_;intro v1 w1 i3 i4;obtain⟨ao,cap,rfl,hO⟩:=out_start i3 h9);have i5:=(Zc w.heap.size w).grown i4 (zT _) (fun q hq=>by cases hq);clear i3 i4 i0 i2;have HK:=lh hk;clear hk;have e3:(ks.take M).length=M:=(by simp;omega);generalize hT:ks.take M=o0 at hO e3;have HT:=lh hT;have i6:=lh e3;clear hT e3;go_loopw [40] (fun c wr=>∃(i m:Nat) (z:List Int),i+m=M∧c=.int .i64 i∧z.length=M∧yG .i8 22 wr w.heap.size ao cap z∧Below w w wr∧alF m i z=alF M 0 o0) (fun c _=>M-(intOf c).toNat)
  case atStart=>exact⟨0,M,o0,by omega,rfl,i6.out,hO,i5,rfl⟩
  case round =>
   obtain⟨i,m,z,i7,rfl,i9,a0,a1,hF⟩:=hrel;have a9:=lh i7;have Q:=lh i9;have P:=lh hF;clear i7 i9 hF;by_cases c6:i<M
   ·obtain⟨m,rfl⟩:∃q,m=q+1:=⟨m-1,by have:=a9.out;omega⟩;have W:∀y,yH z i=y→alF (m+1) i z=if y=2 then alF m (i+1) (z.set i 1) else alF m (i+1) z:=fun y B=>by rw [alF,B]
    have HS:=lh W;clear W;obtain⟨G,S,c7,c8,a2,b0,e4,c9⟩:=a0.at i (by have:=Q.out;omega);subst S;generalize B:yH z i=y at a2;have HY:=lh B;clear B;by_cases h2:y=2
    ·subst h2;have A:=lh (HS.out 2 HY.out);go_wp2_with (fail);go_roundw
     case rel=>exact⟨i+1,m,z.set i 1,by have:=a9.out;omega,by go_num,by rw [ZQ];exact Q.out,a0.set i 1,a1.setCell (by exact c7) _,by rw [←P.out,A.out];rfl⟩
     case measure=>simp [intOf];omega
    ·have t5:(y==2)=false:=(by simpa using h2);have A:=lh ((HS.out y HY.out).trans (Zf h2));clear h2;go_wp2_with (fail);go_roundw
     case rel=>exact⟨i+1,m,z,by have:=a9.out;omega,by go_num,Q.out,a0,a1,by rw [←P.out,A.out]⟩
     case measure=>simp [intOf];omega
   ·have X:m=0:=(by have:=a9.out;omega);have j0:Hid (z=alF M 0 o0):=(by subst X;exact P);clear X P a9;have o9:=yFe K hl;go_upto_if 53 with fail;clear o9;go_cut [15] (fun p0 k=>p0=.int .i8 ((K % 2:Nat):Int)∧k=wr)
    case first =>
     by_cases t6:0<(K:Int) % 2
     ·go_wp2_with (fail);go_meet;exact⟨by rw [show K % 2=1 by omega];rfl,rfl⟩
     ·go_wp2_with (fail);go_meet;exact⟨by rw [show K % 2=0 by omega];rfl,rfl⟩
    case rest =>
     obtain⟨rfl,v⟩:=hcut;have L:=v.symm;clear v;subst L;have e5:0≤((K % 2:Nat):Int)∧((K % 2:Nat):Int)≤1:=(by omega);generalize hE:((K % 2:Nat):Int)=E at e5;have HE:=lh hE;clear hE;have e6:0≤yC6 V∧yC6 V≤1:=(by unfold yC6;split <;> omega);have p3:0≤yC6 a5∧yC6 a5≤1:=(by unfold yC6;split <;> omega);have j1:(o.take M).length=M:=(by simp;omega);have d0:=lh j1;clear j1;have j2:Rd .i32 wr ra (o.take M):=(hr.take M).below a1;have j3:=lh j2;clear j2;have j4:=lh a0.rd;have p4:z.length≤2097152:=(by have:=Q.out;omega);clear p4;go_wp2_with (first | (go_at_call 191;refine (side_any _ _).mono ?_;rintro e w' ⟨rfl,rfl⟩) | (go_at_call 192;refine (Brackets_len _ _ (o.take M) z M M _ _ _ d0.out Q.out j3.out j4.out (by omega) (by omega)).mono ?_;rintro e w2 ⟨pv,l,e7,j5,rfl,j6,d1⟩;obtain⟨pa,e8,rfl,hP⟩:=yBe.of j6;clear j6));have j7:∀t,t<l.length→(l.getD t (0,0)).1<(l.getD t (0,0)).2∧(l.getD t (0,0)).2<M:=pairs_in e7 d0.out Q.out;have e9:=lh j7;clear j7;have j8:=a0.keep d1;have j9:=a1.trans (d1.mono a1.size);have k0:∀G,ao=some ⟨G,0,none⟩→G<wr.heap.size:=fun G S=>by subst S;exact a0.lt.2
     obtain⟨k1,k2⟩:∃R,R=resF o M E l 0 (yC6 V) z:=⟨_,rfl⟩;have f0:=lh k2;clear k2;have k3:=d1.size;have p5:=pairs_len hP;unfold maxLen at p5;generalize hBB:wr.heap.size=B2 at k3 hP k0;have k4:=lh hBB;clear hBB a0 j4 j3;have k5:=lh j5;have k6:=lh e7;clear j5 e7;have t7:w.heap.size≤B2:=(by rw [←k4.out];exact a1.size);clear a1 d1;go_loopw [16,17,65] (fun sa sh sc k=>PairRel o M E B2 w ao cap pa e8 l k1 sa sh sc k) (fun _ _ c _=>l.length-(intOf c).toNat)
     case atStart=>exact⟨0,0,yC6 V,z,by omega,rfl,by omega,rfl,e6.1,e6.2,rfl,Q.out,j8,hP,j9,k3,by rw [f0.out];rfl⟩
     case round =>
      obtain⟨t,D,f1,xs,t8,rfl,p6,rfl,p7,p8,rfl,b1,hX,d2,b2,t9,hF⟩:=hrel;have N:=lh b1;have P:=lh hF;clear b1 hF;by_cases c6:t<l.length
      ·obtain⟨f2,f3⟩:=e9.out t c6;obtain⟨PB,p9,u0,u1,b3,f4⟩:=d2.at t c6;subst p9;have f5:=drop_cons l (0,0) t c6;generalize hp:l.getD t (0,0)=p at f2 f3 b3 f4 f5;have HD:=lh f5;clear f5 hp;obtain⟨r,s⟩:=p;simp only at f2 f3 b3 f4;go_wp2_with (fail);have a6:=hX.keep ((Zc _ _).alloc (zT _) (.cells #[r,s] 96));have f6:=d2.keep ((Zc _ _).alloc (zT _) (.cells #[r,s] 96));have b4:=b2.alloc b2.size (.cells #[r,s] 96);have k7:(wr.alloc (.cells #[r,s] 96)).cell? ⟨wr,0,none⟩=some (.int .i64 r):=(by simp);have k8:(wr.alloc (.cells #[r,s] 96)).cell? ⟨wr,1,none⟩=some (.int .i64 s):=(by simp);have k9:(wr.alloc (.cells #[r,s] 96)).heap.size=wr.heap.size+1:=(by simp);have b5:=lh k9;clear k9;go_loop [16,17] (fun sa sh=>∃(q m:Nat) (C:Int),q+m=D+(r-D)∧D≤q∧q≤M∧sa=.int .i64 q∧sh=.int .i8 C∧0≤C∧C≤1∧yDf xs m q C=yDf xs (r-D) D f1) (fun sa _=>r-(intOf sa).toNat)
       case atStart=>exact⟨D,r-D,f1,rfl,by omega,p6,rfl,rfl,p7,p8,rfl⟩
       case round =>
        obtain⟨q,m,C,b6,u2,l0,rfl,rfl,d3,d4,l1⟩:=hrel;have d5:=lh l1;have T:=lh b6;clear l1 b6;by_cases hq:q<r
        ·obtain⟨m,rfl⟩:∃m',m=m'+1:=⟨m-1,by have:=T.out;omega⟩;obtain⟨G,S,c7,c8,a2,b0,e4,c9⟩:=a6.at q (by have:=N.out;omega);subst S;have W:∀y,yH xs q=y→yDf xs (m+1) q C=if 0≤yCc y then yDf xs m (q+1) (yCc y) else yDf xs m (q+1) C:=fun y B=>by rw [yDf,B]
         have b7:=lh W;clear W;generalize B:yH xs q=y at a2;have A:=lh (b7.out y B);clear B b7;have q0:=wayI_bd y;by_cases hw:0≤yCc y
         ·go_wp2_with (go_at_call 193;refine (yB9 _ _).mono ?_;rintro e w' ⟨rfl,rfl⟩);go_round
          case rel=>exact⟨q+1,m,yCc y,by have:=T.out;omega,by omega,by omega,by go_num,rfl,hw,q0.2,by rw [←d5.out,A.out,Zg hw]⟩
          case measure=>simp [intOf];omega
         ·go_wp2_with (go_at_call 193;refine (yB9 _ _).mono ?_;rintro e w' ⟨rfl,rfl⟩);go_round
          case rel=>exact⟨q+1,m,C,by have:=T.out;omega,by omega,by omega,by go_num,rfl,d3,d4,by rw [←d5.out,A.out,Zf (by omega)]⟩
          case measure=>simp [intOf];omega
        ·have l2:q=D+(r-D)∧m=0:=(by have:=T.out;omega);have b8:Hid (C=yDf xs (r-D) D f1∧q=D+(r-D)):=by
          obtain⟨h1,h2⟩:=l2;subst h2;exact⟨d5.out,h1⟩
         clear l2 d5 T;obtain⟨G,S,c7,c8,a2,b0,e4,c9⟩:=a6.at s (by have:=N.out;omega);subst S;have b9:∀i,i<M→(wr.alloc (.cells #[r,s] 96)).cell? ⟨G,i,none⟩=some (.int .i8 (yH xs i)):=fun i hi=>by
          obtain⟨G',c0,_,_,hc,_⟩:=a6.at i (by have:=N.out;omega);cases c0;exact hc
         have a3:=lh b9;clear b9 a2 b0;have q1:=decI_bd xs r s E C e5.1 e5.2 d3 d4;have d6:=lh (decide_any G M cap r s xs E C (wr.alloc (.cells #[r,s] 96)) c8 f2 f3 (by have:=N.out;omega) c9 a3.out);generalize hkk:decI xs r s E C=kk at q1 d6;have f7:=lh hkk;clear hkk;by_cases q2:kk<0
         ·go_wp2_with (go_at_call 194;refine d6.out.mono ?_;rintro e w5 ⟨rfl,F⟩);have d7:=a6.keep F;have d8:=f6.keep F;have d9:=b4.trans (F.mono (by exact b4.size));go_roundw
          case rel=>exact⟨t+1,q,C,xs,by omega,rfl,l0,rfl,d3,d4,by go_num,N.out,d7,d8,d9,by have:=F.size;have:=b5.out;omega,by
           rw [←P.out,HD.out,resF,←b8.out.1,f7.out,Zg q2,←b8.out.2]⟩
          case measure=>simp [intOf];omega
         ·have u3:decide (kk<0)=false:=(by simp;omega);go_wp2_with (go_at_call 194;refine d6.out.mono ?_;rintro e w5 ⟨rfl,F⟩;have q3:w5.cell? ⟨wr,0,none⟩=some (.int .i64 r):=yB F (by have:=b5.out;omega) k7;have q4:w5.cell? ⟨wr,1,none⟩=some (.int .i64 s):=yB F (by have:=b5.out;omega) k8);have d7:=a6.keep F;have d8:=f6.keep F;have d9:=b4.trans (F.mono (by exact b4.size));have l3:B2≤w5.heap.size:=(by have:=F.size;have:=b5.out;omega);clear q3 q4 k7 k8 a6 f6 b4 F d6 a3 b5 hX d2 b2 b3 f4;have l4:G<B2:=k0 G rfl;go_loopw [91] (fun sj k=>∃(n:Nat) (u:List Int),n≤2∧sj=.int .i64 n∧u.length=M∧yG .i8 22 k w.heap.size (some ⟨G,0,none⟩) cap u∧yBe k B2 (some ⟨PB,0,none⟩) e8 l∧Below w w k∧B2≤k.heap.size ∧
           u=(if n=0 then xs else if n=1 then yHp o M kk r xs else yHp o M kk s (yHp o M kk r xs))) (fun sj _=>2-(intOf sj).toNat)
          case atStart=>exact⟨0,xs,by omega,rfl,N.out,d7,d8,d9,l3,rfl⟩
          case round =>
           obtain⟨n,u,u4,rfl,c1,Y,f8,a7,f9,l5⟩:=hrel;have a4:=lh c1;have l6:=lh l5;clear c1 l5;by_cases hn:n<2
           ·obtain⟨b,u5,l7,g0⟩:∃b,b<M∧(#[Value.int .i64 (r:Int),Value.int .i64 (s:Int)])[n]? = some (.int .i64 (b:Int))∧Hid (yHp o M kk b u=if n+1=1 then yHp o M kk r xs else yHp o M kk s (yHp o M kk r xs)):=by
             have:=l6.out;rcases (show n=0∨n=1 by omega) with rfl | rfl
             ·exact⟨r,by omega,rfl,by rw [this];rfl⟩
             ·exact⟨s,by omega,rfl,by rw [this];rfl⟩
            have u6:∀w:World,(Instr.index 96 (.agg #[Value.int .i64 (r:Int),Value.int .i64 (s:Int)]) (.int .i64 n)).run Tryz.prog w=.ok (.int .i64 b) w:=fun w =>
             yJ0 w _ n _ Tryz.underlying96 Tryz.underlying3 (by kernel_rfl) hn l7
            clear l7;obtain⟨G',c0,q5,u7,q6,q7,_,_⟩:=Y.at b (by have:=a4.out;omega);cases c0;have u9:decide ((n:Int)<2)=true:=(by simp;omega);go_wp2_with (fail);clear q6 q7;have l8:=Y.set b kk;have l9:=f8.set (a:=⟨G,b,none⟩) (by exact l4) (.int .i8 kk);have m0:=a7.setCell (p:=⟨G,b,none⟩) (by exact q5) (.int .i8 kk);have m1:B2≤(wr.setCell ⟨G,b,none⟩ (.int .i8 kk)).heap.size:=(by simpa [World.setCell] using f9);have q8:Hid (yHj o kk (M-(b+1)) (b+1) (u.set b kk)=yHp o M kk b u):=rfl;clear Y f8 a7 f9 d7 d8 d9 l3;clear P HD b8 f7 e9 f0 k5 k6 d0 Q i6 HT HK HM HE N j0 k4 i5;go_loopw [24] (fun O k=>∃(d m:Nat) (g:List Int),d+m=M∧O=.int .i64 d∧g.length=M∧yG .i8 22 k w.heap.size (some ⟨G,0,none⟩) cap g∧yBe k B2 (some ⟨PB,0,none⟩) e8 l∧Below w w k∧B2≤k.heap.size ∧
             yHj o kk m d g=yHp o M kk b u) (fun O _=>M-(intOf O).toNat)
            case atStart=>exact⟨b+1,M-(b+1),u.set b kk,by omega,by go_num,by rw [ZQ];exact a4.out,l8,l9,m0,m1,q8.out⟩
            case round =>
             obtain⟨d,m,g,m2,rfl,c2,H,e0,I,e1,c3⟩:=hrel;have g1:=lh m2;have J:=lh c2;have Z:=lh c3;clear m2 c2 c3 l8 l9 m0 m1;by_cases g2:d<M
             ·obtain⟨m,rfl⟩:∃m',m=m'+1:=⟨m-1,by have:=g1.out;omega⟩;obtain⟨G1,g3,m3,q9,m4,r0,_,_⟩:=H.at d (by have:=J.out;omega);cases g3;have W:∀y x,yH g d=y→yH o d=x→yHj o kk (m+1) d g=if yCc y<0∧yDa x=8 then yHj o kk m (d+1) (g.set d kk) else g:=fun y x B hx=>by rw [yHj,B,hx]
              have b7:=lh W;clear W;generalize B:yH g d=y at m4;have HY:=lh B;clear B;obtain⟨rb,ro,r1,v0,r2⟩:=hr.at I d (by omega);subst r1;generalize hx:yH o d=x at r2;have A:=lh (b7.out y x HY.out hx);clear hx b7 HY;by_cases hw:yCc y<0
              ·by_cases hd:yDa x=8
               ·have r3:(yDa x==8)=true:=(by rw [hd];rfl);have c4:=lh (A.out.trans (Zg ⟨hw,hd⟩));clear hd;go_wp2_with (first | (go_at_call 193;refine (yB9 _ _).mono ?_;rintro e w' ⟨rfl,rfl⟩) | (go_at_call 97;refine (yOg _ _).mono ?_;rintro e w6 ⟨rfl,U⟩;have e2:=H.keep U;have g4:=e0.keep U;have g5:=I.trans (U.mono I.size);obtain⟨G2,r4,r5,v2,v3,v4,_,_⟩:=e2.at d (by have:=J.out;omega);cases r4));have g6:=zY e1 U.size;go_roundw
                case rel=>exact⟨d+1,m,g.set d kk,by have:=g1.out;omega,by go_num,by rw [ZQ];exact J.out,e2.set d kk,g4.set (by exact l4) _,g5.setCell (by exact r5) _,by simpa [World.setCell] using g6,by rw [←Z.out,c4.out]⟩
                case measure=>simp [intOf];omega
               ·have r3:(yDa x==8)=false:=(by simpa using hd);have c4:=lh (A.out.trans (Zf (fun h=>hd h.2)));clear hd;go_wp2_with (first | (go_at_call 193;refine (yB9 _ _).mono ?_;rintro e w' ⟨rfl,rfl⟩) | (go_at_call 97;refine (yOg _ _).mono ?_;rintro e w6 ⟨rfl,U⟩;have e2:=H.keep U;have g4:=e0.keep U;have g5:=I.trans (U.mono I.size)));have g6:=zY e1 U.size;go_roundw
                case rel=>exact⟨n+1,g,by omega,by go_num,J.out,e2,g4,g5,g6,by rw [←c4.out,Z.out];exact g0.out⟩
                case measure=>simp [intOf];omega
              ·have c4:=lh (A.out.trans (Zf (fun h=>hw h.1)));go_wp2_with (first | (go_at_call 193;refine (yB9 _ _).mono ?_;rintro e w' ⟨rfl,rfl⟩));go_roundw
               case rel=>exact⟨n+1,g,by omega,by go_num,J.out,H,e0,I,e1,by rw [←c4.out,Z.out];exact g0.out⟩
               case measure=>simp [intOf];omega
             ·have h0:m=0:=(by have:=g1.out;omega);have X:g=yHp o M kk b u:=by
               subst h0;exact Z.out
              have r6:=lh X;clear X;go_wp2_with (fail);go_roundw
              case rel=>exact⟨n+1,g,by omega,by go_num,J.out,H,e0,I,e1,by rw [r6.out];exact g0.out⟩
              case measure=>simp [intOf];omega
           ·obtain rfl:n=2:=(by omega);go_wp2_with (fail);go_roundw
            case rel=>exact⟨t+1,q,C,u,by omega,rfl,l0,rfl,d3,d4,by go_num,a4.out,Y,f8,a7,f9,by
             rw [←P.out,HD.out,resF,←b8.out.1,f7.out,Zf (by omega),←b8.out.2,l6.out];rfl⟩
            case measure=>simp [intOf];omega
      ·have m5:xs=k1:=by
        have:=P.out;rw [List.drop_of_length_le (by omega)] at this;exact this
       have r7:=lh m5;clear m5 P e9 hP j8 j9 d2;obtain⟨m6,m7⟩:∃R,R=yGr M E (yC6 V) (yC6 a5) (M+1) 0 xs:=⟨_,rfl⟩;have m8:=lh m7;clear m7;generalize hS0e:yC6 V=S0 at e6;generalize hS1e:yC6 a5=S1 at p3;have r8:=lh hS0e;have r9:=lh hS1e;clear hS0e hS1e;have b1:=N.out;go_wp2_with (fail);clear N;have N:=lh b1;clear b1;go_loopw [25] (fun O k=>∃(d f:Nat) (g:List Int),d≤M∧M<d+f∧O=.int .i64 d∧g.length=M∧yG .i8 22 k w.heap.size ao cap g∧Below w w k∧yGr M E S0 S1 f d g=m6) (fun O _=>M-(intOf O).toNat)
       case atStart=>exact⟨0,M+1,xs,by omega,by omega,rfl,N.out,hX,b2,by rw [m8.out,r8.out,r9.out]⟩
       case round =>
        obtain⟨d,f,g,v5,hf,rfl,c2,H,I,c3⟩:=hrel;have J:=lh c2;have Z:=lh c3;clear c2 c3 hX b2;obtain⟨f,rfl⟩:∃f',f=f'+1:=⟨f-1,by omega⟩;by_cases g2:d<M
        ·obtain⟨G,S,c7,c8,a2,b0,e4,c9⟩:=H.at d (by have:=J.out;omega);subst S;have b9:∀i,i<M→wr.cell? ⟨G,i,none⟩=some (.int .i8 (yH g i))∧wr.frozen? ⟨G,i,none⟩=false:=fun i hi=>by
          obtain⟨G',c0,_,_,hc,s0,_⟩:=H.at i (by have:=J.out;omega);cases c0;exact⟨hc,s0⟩
         have a3:=lh b9;clear b9 b0;have g7:=lh (restF_out M E S0 S1 f d g g2);by_cases hw:0≤yCc (yH g d)
         ·have A:=lh (g7.out.1 hw);go_wp2_with (go_at_call 193;refine (yB9 _ _).mono ?_;rintro e w' ⟨rfl,rfl⟩);go_roundw
          case rel=>exact⟨d+1,f,g,by omega,by omega,by go_num,J.out,H,I,by rw [←Z.out,A.out]⟩
          case measure=>simp [intOf];omega
         ·have s1:=runF_bd g (M-d) d;have s2:d+1≤yJq g (M-d) d:=by
           obtain⟨q,hq⟩:∃q,M-d=q+1:=⟨M-d-1,by omega⟩;rw [hq,yJq,Zg (by omega)];exact (runF_bd g q (d+1)).1
          have A:=lh (g7.out.2 (by omega));generalize hj:yJq g (M-d) d=jj at s1 s2 A;have HJ:=lh hj;clear hj g7;go_upto_block 12 with (go_at_call 193;refine (yB9 _ _).mono ?_;rintro e w' ⟨rfl,rfl⟩);go_cut [26] (fun s3 k=>s3=.int .i64 jj∧k=wr)
          case first =>
           go_wp2_with (fail);go_loop [26] (fun sj=>∃(j m:Nat),j+m=M∧sj=.int .i64 j∧yJq g m j=jj) (fun sj=>M-(intOf sj).toNat)
           case atStart=>exact⟨d,M-d,by omega,rfl,HJ.out⟩
           case round =>
            obtain⟨j,m,m9,rfl,n0⟩:=hrel;have g8:=lh m9;have g9:=lh n0;clear m9 n0;by_cases c5:j<M
            ·obtain⟨m,rfl⟩:∃m',m=m'+1:=⟨m-1,by have:=g8.out;omega⟩;have v6:=(a3.out j c5).1;by_cases n1:yCc (yH g j)<0
             ·go_wp2_with (go_at_call 193;refine (yB9 _ _).mono ?_;rintro e w' ⟨rfl,rfl⟩);go_round
              case rel=>exact⟨j+1,m,by have:=g8.out;omega,by go_num,by rw [←g9.out,yJq,Zg n1]⟩
              case measure=>simp [intOf];omega
             ·have n2:j=jj:=(by rw [←g9.out,yJq,Zf n1]);have h3:=lh n2;clear n2;go_wp2_with (go_at_call 193;refine (yB9 _ _).mono ?_;rintro e w' ⟨rfl,rfl⟩);go_meet;exact⟨by rw [h3.out],rfl⟩
            ·have X:m=0:=(by have:=g8.out;omega);have h3:Hid (j=jj):=(by subst X;exact g9.out);clear X;go_wp2_with (fail);go_meet;exact⟨by rw [h3.out],rfl⟩
          case rest =>
           obtain⟨rfl,v⟩:=hcut;have L:=v.symm;clear v;subst L;obtain⟨av,h4⟩:∃a,a=if 0<d then yCc (yH g (d-1)) else S0:=⟨_,rfl⟩;obtain⟨bv,h5⟩:∃a,a=if jj<M then yCc (yH g jj) else S1:=⟨_,rfl⟩;obtain⟨kv,h6⟩:∃a,a=fillI M E S0 S1 d jj g:=⟨_,rfl⟩;have n3:kv=if av=bv then av else E:=by rw [h6,fillI,h4,h5]
           have n4:=lh h4;have n5:=lh h5;have s4:=lh h6;have n6:=lh n3;clear h4 h5 h6 n3;go_upto_if 155 with fail;go_cut [27] (fun h7 k=>h7=.int .i8 av∧k=wr)
           case first =>
            by_cases n7:0<d
            ·have b3:=(a3.out (d-1) (by omega)).1;go_wp2_with (go_at_call 193;refine (yB9 _ _).mono ?_;rintro e w' ⟨rfl,rfl⟩);go_meet;exact⟨by rw [n4.out,Zg n7],rfl⟩
            ·go_wp2_with (fail);go_meet;exact⟨by rw [n4.out,Zf n7],rfl⟩
           case rest =>
            obtain⟨rfl,v⟩:=hcut;have L:=v.symm;clear v;subst L;go_upto_if 164 with fail;go_cut [28] (fun s5 k=>s5=.int .i8 bv∧k=wr)
            case first =>
             by_cases c5:jj<M
             ·have b3:=(a3.out jj c5).1;go_wp2_with (go_at_call 193;refine (yB9 _ _).mono ?_;rintro e w' ⟨rfl,rfl⟩);go_meet;exact⟨by rw [n5.out,Zg c5],rfl⟩
             ·go_wp2_with (fail);go_meet;exact⟨by rw [n5.out,Zf c5],rfl⟩
            case rest =>
             obtain⟨rfl,v⟩:=hcut;have L:=v.symm;clear v;subst L;go_upto_if 172 with fail;go_cut [27] (fun h7 k=>h7=.int .i8 kv∧k=wr)
             case first =>
              by_cases a8:av=bv
              ·have s6:(av != bv)=false:=(by simpa using a8);have h8:=lh a8;clear a8;go_wp2_with (fail);go_meet;exact⟨by rw [n6.out,Zg h8.out],rfl⟩
              ·have s6:(av != bv)=true:=(by simpa using a8);have h8:=lh a8;clear a8;go_wp2_with (fail);go_meet;exact⟨by rw [n6.out,Zf h8.out],rfl⟩
             case rest =>
              obtain⟨rfl,v⟩:=hcut;have L:=v.symm;clear v;subst L;go_wp2_with (fail);have s7:Hid (yO5 kv (jj-d) d g=yO5 (fillI M E S0 S1 d jj g) (jj-d) d g):=(by rw [s4.out];exact lh rfl);clear a3 a2;go_loopw [25] (fun O k=>∃(q m:Nat) (u:List Int),q+m=jj∧O=.int .i64 q∧u.length=M∧yG .i8 22 k w.heap.size (some ⟨G,0,none⟩) cap u∧Below w w k∧yO5 kv m q u=yO5 kv (jj-d) d g) (fun O _=>jj-(intOf O).toNat)
              case atStart=>exact⟨d,jj-d,g,by omega,rfl,J.out,H,I,rfl⟩
              case round =>
               obtain⟨q,m,u,b6,rfl,c1,Y,a7,n8⟩:=hrel;have T:=lh b6;have a4:=lh c1;have n9:=lh n8;clear b6 c1 n8 H I;by_cases v7:q<jj
               ·obtain⟨m,rfl⟩:∃m',m=m'+1:=⟨m-1,by have:=T.out;omega⟩;obtain⟨G1,g3,m3,q9,m4,r0,_,_⟩:=Y.at q (by have:=a4.out;omega);cases g3;go_wp2_with (fail);go_roundw
                case rel=>exact⟨q+1,m,u.set q kv,by have:=T.out;omega,by go_num,by rw [ZQ];exact a4.out,Y.set q kv,a7.setCell (by exact m3) _,by rw [←n9.out];rfl⟩
                case measure=>simp [intOf];omega
               ·have hq:q=jj∧m=0:=(by have:=T.out;omega);have HQ:=lh hq;clear hq;go_wp2_with (fail);go_roundw
                case rel=>exact⟨q,f,u,by have:=HQ.out;omega,by have:=HQ.out;omega,rfl,a4.out,Y,a7,by
                 rw [←Z.out,A.out,←s7.out,←n9.out,HQ.out.2,HQ.out.1];rfl⟩
                case measure=>simp [intOf];have:=HQ.out;omega
        ·have o1:g=m6:=(by rw [←Z.out,yGr,Zf g2]);have s8:=lh o1;clear o1;have o2:=res_end (e:=.returned (.slice ao M cap)) HM.out HT.out j0.out HE.out k6.out k5.out d0.out Q.out f0.out r7.out m8.out s8.out rfl J.out H I;have s9:=lh o2;clear o2;go_wp2_with (fail);go_ret;exact s9.out
end
section
open Go.RowKit
theorem yL2 (p:Nat × Nat):∀l:List (Nat × Nat),(insP p l).Perm (p::l)
 | []=>List.Perm.refl _
 | q::t=>by
   rw [insP];split
   ·exact List.Perm.refl _
   ·exact ((yL2 p t).cons q).trans (List.Perm.swap p q t)
theorem yNw (p:Nat × Nat):∀l:List (Nat × Nat),l.Pairwise (fun a b=>a.1≤b.1)→(insP p l).Pairwise (fun a b=>a.1≤b.1)
 | [],_=>qt _ _
 | q::t,h=>by
   rw [insP];rw [qN] at h;split
   ·next hlt =>
    refine qN.2 ⟨fun x c=>?_,qN.2 h⟩;rw [zX] at c;rcases c with rfl | c
    ·omega
    ·have:=h.1 x c;omega
   ·next hge =>
    refine qN.2 ⟨fun x c=>?_,yNw p t h.2⟩;have:=(yL2 p t).mem_iff.1 c;rw [zX] at this;rcases this with rfl | c
    ·omega
    ·exact h.1 x c
theorem yP2:∀(l s:List (Nat × Nat)),(l.foldl (fun s p=>insP p s) s).Perm (l++s)
 | [],s=>List.Perm.refl _
 | p::l,s=>by
   rw [List.foldl_cons];refine (yP2 l _).trans ?_;rw [zo];exact (List.Perm.append_left l (yL2 p s)).trans List.perm_middle
theorem yLj:∀(l s:List (Nat × Nat)),s.Pairwise (fun a b=>a.1≤b.1)→(l.foldl (fun s p=>insP p s) s).Pairwise (fun a b=>a.1≤b.1)
 | [],s,h=>h
 | p::l,s,h=>by rw [List.foldl_cons];exact yLj l _ (yNw p s h)
theorem sortP_perm (l:List (Nat × Nat)):(sortP l).Perm l:=by
 have:=yP2 l [];rw [zq] at this;exact this
theorem sortP_sorted (l:List (Nat × Nat)):(sortP l).Pairwise (fun a b=>a.1≤b.1):=yLj l [] List.Pairwise.nil
theorem brk_one {e ks:List Int} {n:Nat} {f g:List (Nat × Nat)} (c:f.Perm (brkF e ks n 0 [] [])) (d:g.Perm (brkF e ks n 0 [] [])) (i:f.Pairwise (fun a b=>a.1≤b.1)) (j:g.Pairwise (fun a b=>a.1≤b.1)):f=g:=by
 have k:=((brkF_all e ks n).perm c).apart;have l:=((brkF_all e ks n).perm d).apart;have m:f.Pairwise (fun a b=>a.1<b.1):=(i.and k).imp (fun {a b} h=>by have c:=h.1;have d:=h.2.1;omega);have o:g.Pairwise (fun a b=>a.1<b.1):=(j.and l).imp (fun {a b} h=>by have c:=h.1;have d:=h.2.1;omega);exact List.Perm.eq_of_pairwise (fun a b _ _ c d=>qF c (by omega)) m o (c.trans d.symm)
theorem resI_of {c ks:List Int} {d e f:Int} {l:List (Nat × Nat)} (h:l.Perm (brkF (c.take (min c.length ks.length)) (alF (min c.length ks.length) 0 (ks.take (min c.length ks.length))) (min c.length ks.length) 0 [] []))
 (g:l.Pairwise (fun a b=>a.1≤b.1)):yIf c ks d e f l=resI c ks d e f:=by
 unfold resI;rw [brk_one h (sortP_perm _) g (sortP_sorted _)]
theorem vleft_any (d:Int) (w:World):Calls Tryz.prog 146 #[.int .i8 d] w fun e w'=>e=.returned (.bool (yDp d))∧w=w':=by
 go_enter Tryz.func146,Tryz.ntmps146;go_wp2
 all_goals (go_ret;refine⟨yAk ?_,rfl⟩;unfold yDp;rw [ZY];simp;try omega)
theorem upI_le (x:Nat) (k:Int):upI x k≤2:=by
 unfold upI;split
 ·omega
 ·split <;> omega
theorem up_any (x:Nat) (k:Int) (w:World) (n:x≤125):Calls Tryz.prog 145 #[.int .u8 x,.int .i8 k] w fun e w'=>e=.returned (.int .u8 (upI x k:Nat))∧w=w':=by
 have i:upI x k=if k=3∨k=6 then 2-x % 2 else if (k=1∧x % 2=0)∨(k=0∧x % 2=1) then 1 else 0:=rfl;have a:=lh i;obtain⟨h,j⟩:=nm (x % 2);rw [j] at a;have c:h=0∨h=1:=by omega
 have o:(x:Int) % 2=(h:Int):=by omega
 clear i j;go_enter Tryz.func145,Tryz.ntmps145;by_cases d:k=3
 ·subst d;rcases c with rfl | rfl
  ·go_wp2;go_ret;exact⟨yK (by rw [a.out];rfl),rfl⟩
  ·go_wp2;go_ret;exact⟨yK (by rw [a.out];rfl),rfl⟩
 ·by_cases f:k=6
  ·subst f;rcases c with rfl | rfl
   ·go_wp2;go_ret;exact⟨yK (by rw [a.out];rfl),rfl⟩
   ·go_wp2;go_ret;exact⟨yK (by rw [a.out];rfl),rfl⟩
  ·have g:=a.out;rw [Zf (by omega)] at g;have b:=lh g;have p:(k==3)=false:=(by simpa using d);have q:(k==6)=false:=(by simpa using f);clear g;by_cases l:k=1
   ·subst l;rcases c with rfl | rfl
    ·go_wp2;go_ret;exact⟨yK (by rw [b.out];rfl),rfl⟩
    ·go_wp2;go_ret;exact⟨yK (by rw [b.out];rfl),rfl⟩
   ·have r:(k==1)=false:=(by simpa using l);by_cases m:k=0
    ·subst m;rcases c with rfl | rfl
     ·go_wp2;go_ret;exact⟨yK (by rw [b.out];rfl),rfl⟩
     ·go_wp2;go_ret;exact⟨yK (by rw [b.out];rfl),rfl⟩
    ·have s:(k==0)=false:=(by simpa using m);clear d f;go_wp2;go_ret;exact⟨yK (by rw [b.out,Zf (by omega)];rfl),rfl⟩
def yJo (ds:List Int) (v:Int):Nat→Nat→Int
 | 0,_ => -1
 | m+1,i=>if yH ds i=v then i else yJo ds v m (i+1)
theorem Ix8_any (a:Option Addr) (d:List Int) (n c:Nat) (v:Int) (w:World) (j:d.length=n) (p:Rd .i8 w a d) (B:n≤2097152) :
 Calls Tryz.prog 99 #[.slice a n c,.int .i8 v] w fun e w'=>e=.returned (.int .i64 (yJo d v n 0))∧w'=w:=by
 have q:=lh j;obtain⟨R,g⟩:=nm (yJo d v n 0);rw [g];have r:=lh g;clear j g;go_enter Tryz.func99,Tryz.ntmps99;go_wp2;go_loopw [8] (fun u s=>∃i m:Nat,i+m=n∧u=.int .i64 i∧yJo d v m i=R∧s=w) (fun u _=>n-(intOf u).toNat)
 case atStart=>exact⟨0,n,by omega,rfl,r.out,rfl⟩
 case round =>
  obtain⟨i,m,t,rfl,b,k⟩:=hrel;have x:=k.symm;clear k;subst x;cases m with
  | zero =>
    have z:i=n:=(by omega);rw [yJo] at b;have f:=lh b;subst z;clear b t;go_wp2;go_ret;exact⟨yK f.out,rfl⟩
  | succ m =>
    have C:i<n:=(by omega);obtain⟨G,o,rfl,D,A⟩:=p.at (Zc _ _) i (by have:=q.out;omega);rw [yJo] at b;obtain⟨y,l⟩:=nm (yH d i);rw [l] at A b;have f:=lh b;clear l b;by_cases h:y=v
    ·subst h;go_wp2;go_ret;exact⟨yK (by have:=f.out;rwa [Zg trivial] at this),rfl⟩
    ·have E:(v==y)=false:=by simpa using fun e=>h e.symm
     go_wp2;go_roundw
     case rel=>exact⟨i+1,m,by omega,by go_num,by have:=f.out;rwa [Zf h] at this,trivial⟩
     case measure=>simp [intOf];omega
def yC7 (f:Nat→Int) (run:List Nat) (i:Nat):List Int:=(run.take i).map f++List.replicate (run.length-i) 0
theorem yL8 (f:Nat→Int) (a:List Nat) (i:Nat) (h:i≤a.length):(yC7 f a i).length=a.length:=by unfold yC7;simp;omega
theorem yQp (f:Nat→Int) (a:List Nat) (i:Nat) (h:i<a.length):(yC7 f a i).set i (f (a.getD i 0))=yC7 f a (i+1):=by
 unfold yC7;have e:a[i]=a.getD i 0:=by rw [zI,zF h];rfl
 rw [JI h,zW,e,zZ,show a.length-i=(a.length-(i+1))+1 by omega,JN];rw [qm _ _ (by simp;omega)]
 congr 1
 have:i-((a.take i).map f).length=0:=by simp;omega
 rw [this];rfl
theorem dealF_zero (f:Nat→Int) (a:List Nat) (i:Nat) (h:i<a.length):yH (yC7 f a 0) i=0:=by
 unfold yC7 yH;rw [zI];simp [h]
theorem dealF_all (f:Nat→Int) (a:List Nat):yC7 f a a.length=a.map f:=by unfold yC7;simp
theorem yQe (l:List Nat) (i v:Nat):yg (l.set i v)=(yg l).set i (v:Int):=by unfold yg;rw [List.map_set]
end
section
open Go.RowKit
theorem Tryz.info_rune:(Tryz.prog.info? 21).map (fun i=>(i.zero,i.size,i.bytes))=some (some (.int .i32 0),1,4):=by kernel_rfl
def ParPost (R:List Nat) (n:Nat) (w:World) (e:Ending) (w':World):Prop :=
 ∃a c,e=.returned (.slice a n c)∧R.length=n∧yG .u8 5 w' w.heap.size a c (yg R)∧Below w w w'
structure ParRel (w1:World) (B n:Nat) (v:Value) (runs:List (List Nat)) (out:List Nat) (wx:World):Prop where
 out_:yG .u8 5 wx B (some ⟨B,0,none⟩) n (yg out)
 olen:out.length=n
 nest:yAw wx (B+1) 93 3 v runs
 bel:Below B w1 wx
 sz:B+1≤wx.heap.size
theorem ParRel.keep {w1 b w':World} {B n:Nat} {v:Value} {c:List (List Nat)} {d:List Nat} (h:ParRel w1 B n v c d b) (a:Below b b w'):ParRel w1 B n v c d w' :=
 ⟨h.out_.keep a,h.olen,h.nest.keep a,h.bel.trans (a.mono (by have:=h.sz;omega)),zY h.sz a.size⟩
theorem ParRel.set {w1 a:World} {B n:Nat} {v:Value} {b:List (List Nat)} {c:List Nat} (h:ParRel w1 B n v b c a) (i x:Nat):ParRel w1 B n v b (c.set i x) (a.setCell ⟨B,i,none⟩ (.int .u8 x)):=by
 refine⟨by rw [yQe];exact h.out_.set i x,by rw [ZQ];exact h.olen,h.nest.far (row:=some B) ⟨rfl,rfl,rfl,by simp,fun q f d=>heap_setCell_other a ⟨B,i,none⟩ q _ (fun e=>d (by rw [e]))⟩ (fun g e=>by cases e;omega),h.bel.setCell (p:=⟨B,i,none⟩) (zT _) _,by simpa [World.setCell] using h.sz⟩
theorem rep_ints (n:Nat):yg (List.replicate n 0)=List.replicate n 0:=by unfold yg;simp
theorem yJf {k:IntKind} {e base cap G D i:Nat} {w:World} {a:List Int} (h:yG k e w base (some ⟨G,0,none⟩) cap a) (b:G≠D) (v:Value):yG k e (w.setCell ⟨D,i,none⟩ v) base (some ⟨G,0,none⟩) cap a :=
 JC h (row:=some D) ⟨rfl,rfl,rfl,by simp [World.setCell],fun q d c=>heap_setCell_other w ⟨D,i,none⟩ q v (fun e=>c (by rw [e]))⟩ (.inr fun e=>b (by simpa [Value.ownBlock] using e))
theorem yG.cap {k:IntKind} {e base cap n:Nat} {w:World} {a:Option Addr} {b:List Int} (h:yG k e w base a cap b) (c:b.length=n):n≤cap:=by
 unfold yG at h;obtain⟨d,f,e,g,_⟩:=yP h;cases e;omega
theorem Rd.far {k:IntKind} {w w':World} {G o B:Nat} {xs:List Int} (h:Rd k w (some ⟨G,o,none⟩) xs) (c:w.grownBy w' (some B)) (f:G≠B):Rd k w' (some ⟨G,o,none⟩) xs:=by
 rcases h with h | ⟨b,l,e,d,g⟩
 ·exact .inl h
 ·cases e;exact .inr ⟨G,o,rfl,zl d c.size,fun i j=>(JL (a:=⟨G,o+i,none⟩) (c.block G d (fun e=>f (zu e)))).trans (g i j)⟩
theorem yM3 {w w':World} {B i:Nat} (h:w.grownBy w' (some B)) (v:Value):w.grownBy (w'.setCell ⟨B,i,none⟩ v) (some B) :=
 ⟨h.os,h.tape,h.output,by simpa [World.setCell] using h.size,fun q b a=>(heap_setCell_other w' ⟨B,i,none⟩ q v (fun e=>a (by rw [e]))).trans (h.block q b a)⟩
theorem PResolve_at (k m:Option Addr) (b ks:List Int) (L n o:Nat) (d:Nat) (f g:Int) (w:World) (p:b.length=L) (q:ks.length=L) (r:Rd .i32 w k b) (s:Rd .i8 w m ks) (t:L≤2097152) (u:L≤n) (B:L≤o) (C:d≤125) :
 Calls Tryz.prog 143 #[.slice k L n,.slice m L o,.int .u8 d,.int .i8 f,.int .i8 g] w fun e w' =>
  ∃a c,e=.returned (.slice a L c)∧(resI b ks d f g).length=L∧yG .i8 22 w' w.heap.size a c (resI b ks d f g)∧Below w w w':=by
 subst p;have:=Resolve_any k m b ks n o d f g w r s t (by omega) u (by omega) (by omega);rw [q] at this;refine this.mono fun e w' h=>?_;obtain⟨v,l,x,y,rfl,i,j,z⟩:=h;have A:min b.length ks.length=b.length:=by omega
 rw [resI_of x y] at i j;rw [A] at i j;obtain⟨a,c,rfl,_,_⟩:=yP j;refine⟨a,c,rfl,i,?_,z⟩;unfold yG;rw [i];exact j
theorem made_at (W:World) (k:IntKind) (t L:Nat) (f:Nat→Int) (a:List Nat) (b:a.length=L) (d:L≤2097152) (base:Nat) (c:base≤W.heap.size) :
 yG k t (W.alloc (.cells (madeCells #[.int k 0] L) t)) base (some ⟨W,0,none⟩) L (yC7 f a 0) :=
 yCj ((JQ W (.int k 0) L t).congr fun i e=>by rw [dealF_zero f a i (by omega)]) (by rw [yL8 f a 0 (zd _)];exact b) c (by unfold maxLen;omega)
theorem made_two (W:World) (a c:IntKind) (b d L:Nat) (f g:Nat→Int) (e:List Nat) (h:e.length=L) (i:L≤2097152) :
 yG a b ((W.alloc (.cells (madeCells #[.int a 0] L) b)).alloc (.cells (madeCells #[.int c 0] L) d)).drew W.heap.size (some ⟨W,0,none⟩) L (yC7 f e 0) ∧
 yG c d ((W.alloc (.cells (madeCells #[.int a 0] L) b)).alloc (.cells (madeCells #[.int c 0] L) d)).drew W.heap.size (some ⟨W.heap.size+1,0,none⟩) L (yC7 g e 0) ∧
 Below W W ((W.alloc (.cells (madeCells #[.int a 0] L) b)).alloc (.cells (madeCells #[.int c 0] L) d)).drew:=by
 have k:=made_at W a b L f e h i W.heap.size (zT _);have j:=made_at (W.alloc (.cells (madeCells #[.int a 0] L) b)) c d L g e h i W.heap.size (by simp);rw [zM] at j;exact⟨World.ownsRow.drew (qP k _),World.ownsRow.drew j,(((Zc _ _).alloc (zT _) _).alloc (by simp) _).drew⟩
theorem Para_any (a da:Option Addr) (cs f:List Int) (n c dc base:Nat) (w:World) (hl:cs.length=n) (a0:f.length=n) (hc:Rd .i32 w a cs) (hd:Rd .i8 w da f) (hn:n≤2097152) (d6:n≤dc) (d7:dc≤9223372036854775807) (hb:base≤125) :
 Calls Tryz.prog 100 #[.slice a n c,.slice da n dc,.int .u8 base] w (ParPost (paraI cs f base) n w):=by
 obtain⟨i5,m0,m4,m5,m6⟩:=info_parts (Tryz.info_u8);obtain⟨m7,m8,m9,n0,n1⟩:=info_parts (Tryz.info_i8);obtain⟨n2,n3,n4,n5,n6⟩:=info_parts (Tryz.info_rune);have a6:=lh (LLevels_any da f n dc base w a0 hd hn d6 d7 hb);unfold LevPost at a6;have a7:=levI_ok f base;have hP:paraI cs f base=yLf f base f.length 0 base ((runsI f ((levI f base).1.map Int.ofNat)).foldl (fun g b=>yMa cs f (levI f base).1 (levI f base).2 base b g) (List.replicate cs.length 0)):=rfl;have h7:(levI f base).1.map Int.ofNat=yg (levI f base).1:=rfl;rw [h7,hl,a0] at hP;rw [a0] at a7;have a8:=runsI_ok f (yg (levI f base).1);rw [yZ,a7.1,a0,Nat.min_self] at a8;obtain⟨z,b7⟩:=nm ((levI f base).1);obtain⟨x,d8⟩:=nm ((levI f base).2);rw [b7,d8] at a7 hP;rw [b7] at a8;rw [b7,d8] at a6;obtain⟨R,hR⟩:=nm (runsI f (yg z));rw [hR] at hP a8;obtain⟨FO,d9⟩:=nm (R.foldl (fun g b=>yMa cs f z x base b g) (List.replicate n 0));rw [d9] at hP;rw [hP];have HL:=lh hl;have e0:=lh a0;have a1:=lh a7;have h8:=lh a8;have HR:=lh hR;have h9:=lh d9;have n7:=run_make_row (P:=Tryz.prog) 118 5 i5 (.int .u8 0) Tryz.underlying118 m0 m4 m5 rfl .i64 .i64 n (by rw [m6];omega) (by omega);clear a7 hP h7 a8 b7 d8 hR d9 hl a0;go_enter Tryz.func100,Tryz.ntmps100;go_upto_region 3 with (go_at_call 140;refine a6.out.mono ?_;rintro e w1 ⟨la,lc,ka,kc,rfl,i0,i1,b8⟩);clear n7;obtain⟨B,K⟩:=nm (w1.heap.size);obtain⟨W2,a9⟩:∃W2,W2=w1.alloc (.cells (madeCells #[.int .u8 0] n) 5):=⟨_,rfl⟩;rw [←a9,K];have b0:W2.heap.size=B+1:=by rw [a9,zM,K]
 have i2:yG .u8 5 W2 B (some ⟨B,0,none⟩) n (yg (List.replicate n 0)):=by
  have:=yCj (base:=B) (xs:=List.replicate n 0) ((JQ w1 (.int .u8 0) n 5).congr fun i hi=>by rw [rep_zero n i hi]) (by simp) (by rw [K];exact zT _) (by unfold maxLen;omega);rw [K,←a9] at this;rw [rep_ints];exact this
 have b9:Below B w1 W2:=by rw [a9];exact (Zc _ _).alloc (by omega) _
 have f0:Rd .u8 w1 la (yg z):=i0.rd;have i3:Rd .i8 w1 ka x:=i1.rd;have b1:w.heap.size≤B:=by rw [←K];exact b8.size
 have b2:=lh (LRuns_any da la f (yg z) n dc lc W2 e0.out (by rw [yZ];exact a1.out.1) (hd.below (b8.trans (b9.mono b1))) (f0.below (by rw [K];exact b9)) hn d6 d7);unfold RunsPost at b2;rw [HR.out,b0] at b2;have HB:=lh K;have c0:=lh b8;have n8:=lh b9;clear K a9 b8 b9 i0 i1;go_upto_block 0 with (go_at_call 141;refine b2.out.mono ?_;rintro e w3 ⟨v,rfl,f1,c3⟩;obtain⟨va,vc,n9,o0,o1⟩:=f1.shape;subst n9);have c4:ParRel w1 B n (.slice va R.length vc) R (List.replicate n 0) w3 :=
  ⟨i2.keep (by rw [b0];exact c3),by simp,by rw [←b0];rw [b0];exact f1,n8.out.trans (c3.mono (by omega)),by have:=c3.size;omega⟩
 obtain⟨F,f2⟩:=nm (R.length);rw [f2] at c4 o0 ⊢;unfold maxLen at o1;have a2:=lh f2;have i4:=lh (And.intro f0 i3);clear f1 c3 i2 b0 f2 f0 i3;go_cut [37] (fun _ l=>ParRel w1 B n (.slice va F vc) R FO l)
 case first =>
  go_wp2;go_loopw [37] (fun u l=>∃(j m:Nat) (g:List Nat),j+m=F∧u=.int .i64 j∧ParRel w1 B n (.slice va F vc) R g l∧(R.drop j).foldl (fun g b=>yMa cs f z x base b g) g=FO) (fun u _=>F-(intOf u).toNat)
  case atStart=>exact⟨0,F,List.replicate n 0,by omega,rfl,c4,by rw [ZZ];exact h9.out⟩
  case round =>
   obtain⟨j,m,g,o2,rfl,rel,o⟩:=hrel;clear c4;obtain⟨V,hV⟩:∃V,V=wr:=⟨_,rfl⟩;subst hV;cases m with
   | zero =>
     have i6:j=F:=(by omega);have c5:g=FO:=(by rw [←o,i6,←a2.out,Zi];rfl);subst i6;subst c5;clear o o2;go_wp2;go_meet;exact rel
   | succ m =>
     have y:j<F:=(by omega);obtain⟨b,c6⟩:=nm (R.getD j []);have i7:b∈R:=(by rw [←c6,zI,zF (by have:=a2.out;omega)];exact ZJ _);have b3:R.drop j=b::R.drop (j+1):=by
      rw [qT (by have:=a2.out;omega),←c6,zI,zF (by have:=a2.out;omega)];rfl
     rw [b3,List.foldl_cons] at o;obtain⟨f3,i9,o3⟩:=h8.out b i7;obtain⟨L,hL⟩:=nm (b.length);have f4:0<L:=(by rw [←hL];exact zj.2 f3);rw [hL] at o3;obtain⟨Gv,cv,s,hv,s9,t0,j0,_,_,hs,_,_⟩:=rel.nest.elem j (by have:=a2.out;omega);rw [c6,hL] at hs;obtain⟨ra,rc,rfl,t1,t2⟩:=yP hs;obtain⟨Gr,O,t3,t4,_⟩:=yB2 hs f4;subst O;have c7:Rd .i64 V (some ⟨Gr,0,none⟩) (yg b):=(own_out hs hL).rd;rw [a2.out] at hv;cases hv;have c8:=lh rel;have M:=lh o;have h:=lh hL;have c9:=lh i9;have t5:=lh f3;have g0:(0:Int)≤(j:Int):=(by omega);have g1:(j:Int)<(F:Int):=(by omega);clear rel o b3 c6 i7 hs hL i9 f3;go_upto_region 6 with fail;have o4:=run_make_row (P:=Tryz.prog) 121 21 n2 (.int .i32 0) Tryz.underlying121 n3 n4 n5 rfl .i64 .i64 L (by rw [n6];omega) (by omega);have o5:=run_make_row (P:=Tryz.prog) 123 22 m7 (.int .i8 0) Tryz.underlying123 m8 m9 n0 rfl .i64 .i64 L (by rw [n1];omega) (by omega);go_cut [12,13] (fun o6 o7 l=>∃C D,o6=.slice (some ⟨C,0,none⟩) L L∧o7=.slice (some ⟨D,0,none⟩) L L∧C≠D∧yG .i32 21 l V.heap.size (some ⟨C,0,none⟩) L (yC7 (yH cs) b 0)∧yG .i8 22 l V.heap.size (some ⟨D,0,none⟩) L (yC7 (yH x) b 0)∧Below V V l)
     case first =>
      clear j0
      go_region
      all_goals go_wp2
      ·go_meet;obtain⟨m1,m2,m3⟩:=made_two V .i32 .i8 21 22 L (yH cs) (yH x) b h.out (by omega);exact⟨V.heap.size,V.heap.size+1,rfl,rfl,by omega,m1,m2,m3⟩
      ·go_meet;obtain⟨m1,m2,m3⟩:=made_two V .i8 .i32 22 21 L (yH x) (yH cs) b h.out (by omega);exact⟨V.heap.size+1,V.heap.size,rfl,rfl,by omega,m2,m1,m3⟩
     case rest =>
      obtain⟨C,D,rfl,rfl,b4,A,E,t⟩:=hcut;have d0:=lh A;have j1:=lh E;have j2:=lh t;clear A E t j0 o4 o5;obtain⟨V2,o8⟩:∃V2,V2=wc:=⟨_,rfl⟩;subst o8;have t6:B<V.heap.size:=(by have:=c8.out.sz;omega);go_upto_block 2 with fail;go_cut [14,15] (fun _ _ l=>yG .i32 21 l V.heap.size (some ⟨C,0,none⟩) L (b.map (yH cs))∧yG .i8 22 l V.heap.size (some ⟨D,0,none⟩) L (b.map (yH x))∧Below V V l)
      case first =>
       go_wp2;go_loopw [14,15,49] (fun _ _ u l=>∃i:Nat,i≤L∧u=.int .i64 i∧yG .i32 21 l V.heap.size (some ⟨C,0,none⟩) L (yC7 (yH cs) b i)∧yG .i8 22 l V.heap.size (some ⟨D,0,none⟩) L (yC7 (yH x) b i)∧Below V V l) (fun _ _ u _=>L-(intOf u).toNat)
       case atStart=>exact⟨0,by omega,rfl,d0.out,j1.out,j2.out⟩
       case round =>
        obtain⟨i,hi,rfl,A,E,t⟩:=hrel;clear d0 j1 j2;by_cases y:i<L
        ·obtain⟨p,G⟩:=nm (b.getD i 0);have d1:p<n:=c9.out p (by rw [←G,zI,zF (by have:=h.out;omega)];exact ZJ _);have j3:=t.size;have j4:w1.heap.size=B:=HB.out;have Q:Below B w1 wr:=c8.out.bel.trans (t.mono (by omega));obtain⟨j5,ro,O,o9,a3⟩:=c7.at t i (by rw [yZ,h.out];exact y);cases O;obtain⟨Gc,co,p1,t7,p2⟩:=hc.at (c0.out.trans (Q.mono b1)) p (by rw [HL.out];exact d1);subst p1;obtain⟨Gk,ko,p3,t8,p4⟩:=i4.out.2.at (by rw [j4];exact Q) p (by rw [a1.out.2.1];exact d1);subst p3;obtain⟨C',p5,j6,_,p6,t9,_,_⟩:=A.at i (by rw [yL8 _ _ _ (by rw [h.out];exact hi),h.out];exact y);cases p5;obtain⟨D',p7,j7,_,p8,u0,_,_⟩:=E.at i (by rw [yL8 _ _ _ (by rw [h.out];exact hi),h.out];exact y);cases p7;rw [yAt,G,Za] at a3;obtain⟨I,f5⟩:=nm (yH cs p);obtain⟨J,f6⟩:=nm (yH x p);generalize yH (yC7 (yH cs) b i) i=v1 at p6;generalize yH (yC7 (yH x) b i) i=v2 at p8;rw [f5] at p2;rw [f6] at p4;have d2:=yQp (yH cs) b i (by rw [h.out];exact y);have d3:=yQp (yH x) b i (by rw [h.out];exact y);rw [G,f5] at d2;rw [G,f6] at d3;have f7:=A.set i I;have f8:=E.set i J;rw [d2] at f7;rw [d3] at f8;have p9:=lh (yJf (D:=D) (i:=i) f7 b4 (.int .i8 J));have q0:Hid (yG .i8 22 ((wr.setCell ⟨C,i,none⟩ (.int .i32 I)).setCell ⟨D,i,none⟩ (.int .i8 J)) V.heap.size (some ⟨D,0,none⟩) L (yC7 (yH x) b (i+1))):=lh (by
          have:=(yJf (D:=C) (i:=i) E (fun e=>b4 e.symm) (.int .i32 I)).set i J
          rwa [d3] at this)
         have q1:=lh (yJf (D:=C) (i:=i) f8 (fun e=>b4 e.symm) (.int .i32 I));have q2:Hid (yG .i32 21 ((wr.setCell ⟨D,i,none⟩ (.int .i8 J)).setCell ⟨C,i,none⟩ (.int .i32 I)) V.heap.size (some ⟨C,0,none⟩) L (yC7 (yH cs) b (i+1))):=lh (by
          have:=(yJf (D:=D) (i:=i) A b4 (.int .i8 J)).set i I
          rwa [d2] at this)
         have q3:=lh (((t.setCell (p:=⟨C,i,none⟩) j6 (.int .i32 I)).setCell (p:=⟨D,i,none⟩) j7 (.int .i8 J)).drew);have q4:=lh (((t.setCell (p:=⟨D,i,none⟩) j7 (.int .i8 J)).setCell (p:=⟨C,i,none⟩) j6 (.int .i32 I)).drew);have e1:Gc≠C:=(by omega);have e2:Gc≠D:=(by omega);have e3:Gk≠C:=(by omega);have e4:Gk≠D:=(by omega);have e5:C≠Gc:=(by omega);have e6:D≠Gc:=(by omega);have e7:C≠Gk:=(by omega);have e8:D≠Gk:=(by omega);have e9:D≠C:=fun e=>b4 e.symm;have j8:(0:Int)≤(p:Int):=(by omega);have j9:(p:Int)<(n:Int):=(by omega);have k0:(0:Int)≤(i:Int):=(by omega);have k1:(i:Int)<(L:Int):=(by omega);clear A E t G f5 f6 d2 d3 f7 f8 Q j4 hi;go_upto_region 10 with fail
         go_region_held3 (fun w'=>w'.cell? ⟨Gc,co+p,none⟩=some (.int .i32 I)∧w'.cell? ⟨Gk,ko+p,none⟩=some (.int .i8 J)) (go_keep) (fail)
         all_goals go_wp2
         all_goals go_roundw
         all_goals first | (case rel=>first | exact⟨i+1,by omega,by go_num,p9.out,q0.out,q3.out⟩ | exact⟨i+1,by omega,by go_num,q2.out,q1.out,q4.out⟩) | (case measure=>simp [intOf];omega)
        ·have a4:i=L:=(by omega);subst a4;rw [←h.out,dealF_all,h.out] at A E;clear hi y;go_wp2;go_meet;exact⟨A,E,t⟩
      case rest =>
       obtain⟨A,E,t⟩:=hcut;obtain⟨H,q5⟩:∃H,H=wc:=⟨_,rfl⟩;subst q5;have k2:w1.heap.size=B:=HB.out;have j3:=t.size;have Q:Below B w1 H:=c8.out.bel.trans (t.mono (by omega));have k3:Below w w H:=c0.out.trans (Q.mono b1);obtain⟨S,d4⟩:=nm (b.getD 0 0);have q6:S<n:=c9.out S (by rw [←d4,zI,zF (by have:=h.out;omega)];exact ZJ _);obtain⟨j5,ro,O,o9,a3⟩:=c7.at t 0 (by rw [yZ,h.out];exact f4);cases O;rw [yAt,d4,Zl] at a3;have f9:Rd .u8 H la (yg z):=i4.out.1.below (by rw [k2];exact Q);obtain⟨Gl,lo,q7,u1,k4⟩:=f9.at (Zc _ _) S (by rw [yZ,a1.out.1];exact q6);subst q7;obtain⟨X,hX⟩:=nm (z.getD S 0);rw [yAt,hX] at k4;have k5:X≤125:=(by rw [←hX];exact yK2 a1.out.2.2.1 S);obtain⟨s1,g2⟩:=nm ((yKn f z base b).1);obtain⟨s2,g3⟩:=nm ((yKn f z base b).2);have g4:=LSides_any da (some ⟨Gl,lo,none⟩) (some ⟨Gr,0,none⟩) f z b n dc lc rc L base H e0.out a1.out.1 h.out (hd.below k3) f9 (c7.below t) f4 hn (by omega) d6 d7 c9.out hb a1.out.2.2.1;rw [g2,g3] at g4;have k6:=lh g4;obtain⟨wk,g5⟩:=nm (weakF (b.map (yH x)) s1);have d5:=fun W (hb:Below H.heap.size H W)=>WResolve_any (some ⟨D,0,none⟩) (b.map (yH x)) L s1 W (E.rd.below hb) (by rw [zK,h.out];omega);unfold yRd at d5;rw [g5,zK,h.out] at d5;have k7:=lh d5;have d0:=lh A;obtain⟨own,g6⟩:=nm (resI (b.map (yH cs)) wk X s1 s2);have k8:yMa cs f z x base b g=yHh X own b 0 g:=by
        rw [←g6,←g5,←g2,←g3,←hX,←d4];rfl
       have q8:Hid ((R.drop (j+1)).foldl (fun g b=>yMa cs f z x base b g) (yHh X own b 0 g)=FO):=lh (by rw [←k8];exact M.out);have k9:=lh t;have q9:=lh g6;have u2:(0:Int)<(L:Int):=(by omega);have j8:(0:Int)≤(S:Int):=(by omega);have j9:(S:Int)<(n:Int):=(by omega);clear A E t Q k3 d4 hX g2 g3 g5 g4 d5 g6 k8 M a6 b2 h8 h9 HR f9;go_upto_region 15 with (first
        | (go_at_call 142;refine k6.out.mono ?_;rintro e w4 ⟨rfl,N⟩)
        | (go_at_call 144;refine (k7.out w4 N).mono ?_;rintro e w5 ⟨r0,r1,rfl,l0,g7,b5⟩)
        | (go_at_call 143;refine (PResolve_at (some ⟨C,0,none⟩) r0 (b.map (yH cs)) wk L L r1 X s1 s2 w5 (by rw [zK,h.out]) l0 (d0.out.rd.below (N.trans (b5.mono N.size))) g7.rd (by omega) (zT _) (yG.cap g7 l0) k5).mono ?_;rintro e w6 ⟨oa,oc,rfl,l1,g8,l2⟩))
       rw [q9.out] at g8 l1;have l3:Hid (Below H H w6):=lh (N.trans ((b5.mono N.size).trans (l2.mono (by have:=N.size;have:=b5.size;omega))));have l4:ParRel w1 B n (.slice (some ⟨Gv,0,none⟩) F vc) R g w6:=(c8.out.keep k9.out).keep l3.out;have u3:B<w5.heap.size:=(by have:=N.size;have:=b5.size;omega);have r2:Rd .i64 w6 (some ⟨Gr,0,none⟩) (yg b):=c7.below (k9.out.trans (l3.out.mono j3));have l5:w6.grownBy w6 (some B):=World.grownBy.refl _ _;clear N b5 l2 g7 a3 k4 k6 k7;go_wp2;go_loopw [19,20,93] (fun _ _ u l=>∃(i q:Nat) (a5:List Nat),i+q=L∧u=.int .i64 i∧ParRel w1 B n (.slice (some ⟨Gv,0,none⟩) F vc) R a5 l∧w6.grownBy l (some B)∧yHh X own (b.drop i) i a5=yHh X own b 0 g) (fun _ _ u _=>L-(intOf u).toNat)
       case atStart=>exact⟨0,L,g,by omega,rfl,l4,l5,by rw [ZZ]⟩
       case round =>
        obtain⟨i,q,a5,r3,rfl,rel,hg,o⟩:=hrel;clear l4 l5;cases q with
        | zero =>
          have a4:i=L:=(by omega);have c5:a5=yHh X own b 0 g:=(by rw [←o,a4,←h.out,Zi];rfl);subst a4;rw [c5] at rel;have HC:=lh rel;clear o c5 r3 rel;go_wp2;go_roundw
          case rel=>exact⟨j+1,m,yHh X own b 0 g,by omega,by go_num,HC.out,q8.out⟩
          case measure=>simp [intOf];omega
        | succ q =>
          have y:i<L:=(by omega);obtain⟨p,G⟩:=nm (b.getD i 0);have d1:p<n:=c9.out p (by rw [←G,zI,zF (by have:=h.out;omega)];exact ZJ _);have b3:b.drop i=p::b.drop (i+1):=by
           rw [qT (by have:=h.out;omega),←G,zI,zF (by have:=h.out;omega)];rfl
          obtain⟨j5,ro,O,u4,a3⟩:=(r2.far hg (by omega)).at (Zc _ _) i (by rw [yZ,h.out];exact y);cases O;rw [yAt,G,Za] at a3;have l6:=JC g8 hg (.inr fun e=>by have:=(ZW g8 B e).1;omega);obtain⟨Go,r4,_,_,r5,_,_,_⟩:=yG.at l6 i (by rw [l1];exact y);subst r4;obtain⟨k,hk⟩:=nm (yH own i);rw [hk] at r5;obtain⟨B',g9,_,_,T,r6,_,_⟩:=rel.out_.at p (by rw [yZ,rel.olen];exact d1);cases g9;obtain⟨U,hU⟩:=nm (upI X k);have u5:U≤2:=(by rw [←hU];exact upI_le X k);have r7:Hid (∀W,Calls Tryz.prog 145 #[.int .u8 X,.int .i8 k] W fun e w'=>e=.returned (.int .u8 (U:Nat))∧W=w'):=lh fun W=>by rw [←hU];exact up_any X k W k5
          rw [b3,yHh,hk,hU] at o;have M:=lh o;have h0:=rel.set p (X+U);have h1:=yM3 (i:=p) hg (.int .u8 ((X+U:Nat):Int));rw [Int.natCast_add] at h0 h1;have r8:=lh h0;have r9:=lh h1;generalize yH (yg a5) p=vo at T;have j8:(0:Int)≤(p:Int):=(by omega);have j9:(p:Int)<(n:Int):=(by omega);have k0:(0:Int)≤(i:Int):=(by omega);have k1:(i:Int)<(L:Int):=(by omega);clear o b3 G hk hU h0 h1 rel hg l6;go_wp2_with (go_at_call 145;refine (r7.out _).mono ?_;rintro e w' ⟨rfl,Y⟩;subst Y);go_roundw
          case rel=>exact⟨i+1,q,a5.set p (X+U),by omega,by go_num,r8.out,r9.out,M.out⟩
          case measure=>simp [intOf];omega
 case rest =>
  have l7:=lh hcut;obtain⟨s0,l8⟩:=nm (yLf f base n 0 base FO);have h2:=lh l8;clear hcut c4 l8 a6 b2;go_wp2;rw [h2.out];go_loopw [21,22,23,114] (fun u21 _ _ u l=>∃(i m Z:Nat) (g:List Nat),i+m=n∧u=.int .i64 i∧u21=.int .u8 (Z:Nat)∧ParRel w1 B n (.slice va F vc) R g l∧yLf f base m i Z g=s0) (fun _ _ _ u _=>n-(intOf u).toNat)
  case atStart=>exact⟨0,n,base,FO,by omega,rfl,rfl,l7.out,h2.out⟩
  case round =>
   obtain⟨i,m,Z,g,s3,rfl,rfl,rel,o⟩:=hrel;clear l7;cases m with
   | zero =>
     have a4:i=n:=(by omega);rw [yLf] at o;subst o a4;have h3:=lh rel;clear s3 rel;go_wp2;go_ret;have r:=h3.out;rw [h2.out];exact⟨_,_,rfl,r.olen,yq r.out_ (by omega),c0.out.trans (r.bel.mono b1)⟩
   | succ m =>
     have y:i<n:=(by omega);have k2:w1.heap.size=B:=HB.out;obtain⟨Gd,od,s4,u6,s5⟩:=hd.at (c0.out.trans (rel.bel.mono b1)) i (by rw [e0.out];exact y);subst s4;obtain⟨d,h4⟩:=nm (yH f i);rw [h4] at s5;rw [yLf,h4] at o;obtain⟨lb,h5⟩:=nm (yDp d);have h6:Hid (∀W,Calls Tryz.prog 146 #[.int .i8 d] W fun e w'=>e=.returned (.bool lb)∧W=w'):=lh fun W=>by rw [←h5];exact vleft_any d W
     rw [h5] at o;obtain⟨B',g9,_,_,T,r6,_,_⟩:=rel.out_.at i (by rw [yZ,rel.olen];exact y);cases g9;rw [yAt] at T;have M:=lh o;have s6:=lh (rel.set i Z);have s7:=lh (rel.set i base);have h3:=lh rel;have s8:wr.cell? ⟨B,i,none⟩=some (.int .u8 (g.getD i 0:Nat)):=T;obtain⟨vo,l9⟩:=nm (g.getD i 0);rw [l9] at T M;have k0:(0:Int)≤(i:Int):=(by omega);have k1:(i:Int)<(n:Int):=(by omega);have c1:=yP0 T (.int .u8 (Z:Nat));have c2:=yP0 T (.int .u8 (base:Nat));clear o rel h4 h5 s8 l9;cases lb with
     | true =>
       clear c2;go_wp2_with (go_at_call 146;refine (h6.out _).mono ?_;rintro e w' ⟨rfl,Y⟩;subst Y);go_roundw
       case rel=>exact⟨i+1,m,Z,g.set i Z,by omega,by go_num,rfl,s6.out,by have:=M.out;rwa [Zg (by first | rfl | trivial)] at this⟩
       case measure=>simp [intOf];omega
     | false =>
       have e:=M.out;rw [Zf (by simp)] at e;clear c1;by_cases b6:d=10
       ·rw [Zg b6] at e;subst b6;have HE:=lh e;clear e;go_wp2_with (go_at_call 146;refine (h6.out _).mono ?_;rintro e w' ⟨rfl,Y⟩;subst Y);go_roundw
        case rel=>exact⟨i+1,m,base,g.set i base,by omega,by go_num,rfl,s7.out,HE.out⟩
        case measure=>simp [intOf];omega
       ·rw [Zf b6] at e;have HE:=lh e;have u7:(d==10)=false:=(by simpa using b6);clear e c2 b6;go_wp2_with (go_at_call 146;refine (h6.out _).mono ?_;rintro e w' ⟨rfl,Y⟩;subst Y);go_roundw
        case rel=>exact⟨i+1,m,vo,g,by omega,by go_num,rfl,h3.out,HE.out⟩
        case measure=>simp [intOf];omega
end
section
open Go.RowKit
def yHs (cs:List Int) (i:Nat):List Int:=(cs.take i).map yDa++List.replicate (cs.length-i) 0
theorem dealD_next (cs:List Int) (i:Nat) (h:i<cs.length):(yHs cs i).set i (yDa (yH cs i))=yHs cs (i+1):=by
 unfold yHs;have e:cs[i]=yH cs i:=by rw [yH,zI,zF h];rfl
 rw [JI h,zW,e,zZ,show cs.length-i=(cs.length-(i+1))+1 by omega,JN];rw [qm _ _ (by simp;omega)]
 congr 1
 have:i-((cs.take i).map yDa).length=0:=by simp;omega
 rw [this];rfl
theorem dealD_zero (cs:List Int) (i:Nat) (h:i<cs.length):yH (yHs cs 0) i=0:=by
 unfold yHs yH;rw [zI];simp [h]
theorem dealD_len (cs:List Int) (i:Nat) (h:i≤cs.length):(yHs cs i).length=cs.length:=by unfold yHs;simp;omega
theorem dealD_all (cs:List Int):yHs cs cs.length=cs.map yDa:=by unfold yHs;simp
theorem yGg (b:Int):∀(f:Nat) (a:List Int),yNg b f a=0∨yNg b f a=1
 | 0,a=>.inl rfl
 | f+1,a=>by
   rw [yNg]
   repeat' split
   all_goals first | exact .inl rfl | exact .inr rfl | exact yGg b f _
theorem idx_find (a:List Int) (v:Int):∀(m i:Nat),i+m=a.length→yJo a v m i=(match (a.drop i).findIdx? (fun d=>d==v) with | none => -1 | some j=>((i+j:Nat):Int))
 | 0,i,h=>by
   rw [yJo,List.drop_eq_nil_iff.2 (by omega)];rfl
 | m+1,i,h=>by
   have c:a.drop i=yH a i::a.drop (i+1):=by
    rw [qT (by omega),yH,zI,zF (by omega)];rfl
   rw [yJo,c,List.findIdx?_cons];by_cases b:yH a i=v
   ·rw [Zg b];have:(yH a i==v)=true:=(by simpa using b);rw [this];simp
   ·rw [Zf b,idx_find a v m (i+1) (by omega)];have:(yH a i==v)=false:=(by simpa using b);rw [this];cases (a.drop (i+1)).findIdx? (fun d=>d==v) with
    | none=>rfl
    | some j=>show (((i+1+j:Nat)):Int)=(((i+(j+1):Nat)):Int);omega
theorem para_len (a:List Int):yJb a=if yJo a 10 a.length 0 = -1 then a.length else (yJo a 10 a.length 0+1).toNat:=by
 rw [idx_find a 10 a.length 0 (by omega),ZZ];unfold yJb;cases a.findIdx? (fun d=>d==10) with
 | none=>rfl
 | some j =>
   show j+1=if ((0+j:Nat):Int) = -1 then a.length else (((0+j:Nat):Int)+1).toNat;rw [Zf (by omega)];omega
theorem idxF_bd (a:List Int) (v:Int):∀(m i:Nat),yJo a v m i = -1∨((i:Int)≤yJo a v m i∧yJo a v m i<i+m)
 | 0,i=>.inl rfl
 | m+1,i=>by
   rw [yJo];split
   ·right;omega
   ·rcases idxF_bd a v m (i+1) with h | h
    ·exact .inl h
    ·right;omega
theorem yOd {k:IntKind} {w:World} {a:Option Addr} {xs:List Int} (h:Rd k w a xs) (m:Nat):Rd k w a (xs.take m):=by
 rcases h with rfl | ⟨b,c,e,d,f⟩
 ·exact .inl (by simp)
 ·refine .inr ⟨b,c,e,d,fun i g=>?_⟩;rw [za] at g;rw [f i (by omega)]
  congr 2
  unfold yH;rw [zI,zI,zv,Zg (by omega)]
def VLPost (cs:List Int) (want:Int) (n:Nat) (w:World) (e:Ending) (w':World):Prop :=
 ∃a c,e=.returned (.tuple #[.slice a n c,.int .u8 (yAx cs want).2])∧(yAx cs want).1.length=n∧yG .u8 5 w' w.heap.size a c (yg (yAx cs want).1)∧Below w w w'
theorem ints_append (a b:List Nat):yg (a++b)=yg a++yg b:=by unfold yg;simp
theorem yG.news {k:IntKind} {e base cap G:Nat} {w:World} {a:List Int} (h:yG k e w base (some ⟨G,0,none⟩) cap a):∀j u,(a.map (Value.int k))[j]? = some u→w.cell? ((⟨G,0,none⟩:Addr).add j)=some u:=fun j u b=>World.ownsRow.cells h (g:=G) rfl j u b
theorem yNo (a:Option Addr) (cs:List Int) (n c:Nat) (s:Int) (w:World) (hl:cs.length=n) (hc:Rd .i32 w a cs) (hn:n≤2097152) (f3:n≤c) (f4:c≤9223372036854775807) :
 Calls Tryz.prog 60 #[.slice a n c,.int .i8 s] w (VLPost cs s n w):=by
 obtain⟨i5,f5,f6,f7,f8⟩:=info_parts (Tryz.info_u8);obtain⟨f9,g0,g1,g2,g3⟩:=info_parts (Tryz.info_i8);have l:=lh hl;have g4:=run_make_row (P:=Tryz.prog) 123 22 f9 (.int .i8 0) Tryz.underlying123 g0 g1 g2 rfl .i64 .i64 n (by rw [g3];omega) (by omega);clear hl;go_enter Tryz.func60,Tryz.ntmps60;go_wp2;clear g4;have c1:=JQ w (.int .i8 0) n 22;have c2:yG .i8 22 (w.alloc (.cells (madeCells #[.int .i8 0] n) 22)) w.heap.size (some ⟨w,0,none⟩) n (yHs cs 0) :=
  yCj (c1.congr fun i U=>by rw [dealD_zero cs i (by rw [l.out];exact U)]) (by rw [dealD_len cs 0 (by omega)];exact l.out) (zT _) (by unfold maxLen;omega)
 have c3:=(Zc w.heap.size w).alloc (zT _) (.cells (madeCells #[.int .i8 0] n) 22);clear c1;go_loopw [7,8,17] (fun _ _ u F=>∃i:Nat,i≤n∧u=.int .i64 i∧yG .i8 22 F w.heap.size (some ⟨w,0,none⟩) n (yHs cs i)∧Below w w F) (fun _ _ u _=>n-(intOf u).toNat)
 case atStart=>exact⟨0,by omega,rfl,c2,c3⟩
 case round =>
  obtain⟨i,U,rfl,z,M⟩:=hrel;clear c2 c3;by_cases X:i<n
  ·obtain⟨Gc,co,rfl,j4,g5⟩:=hc.at M i (by rw [l.out];exact X);obtain⟨G',g6,_,a8,c4,g7,_,_⟩:=z.at i (by rw [dealD_len cs i (by rw [l.out];exact U),l.out];exact X);cases g6;have a9:=dealD_next cs i (by rw [l.out];exact X);obtain⟨y,hy⟩:=nm (yH cs i);rw [hy] at g5 a9;have g8:=lh a9;have HO:=lh z;have c5:=lh M;generalize yH (yHs cs i) i=vo at c4;have j5:(0:Int)≤(i:Int):=(by omega);have j6:(i:Int)<(n:Int):=(by omega);clear z M hy a9;go_wp2_with (go_at_call 97;refine (yOg y _).mono ?_;rintro e w2 ⟨rfl,D⟩;have j7:=(D.cell (p:=⟨w.heap.size,i,none⟩) a8).trans c4;have j8:=(D.frozen (p:=⟨w.heap.size,i,none⟩) a8).trans g7;have c6:=lh D;clear D);have c7:=(HO.out.keep c6.out).set i (yDa y);rw [g8.out] at c7;have Y:Below w w (w2.setCell ⟨w.heap.size,i,none⟩ (.int .i8 (yDa y))):=(c5.out.trans (c6.out.mono c5.out.size)).setCell (p:=⟨w.heap.size,i,none⟩) (zT _) _;go_roundw
   case rel=>exact⟨i+1,by omega,by go_num,c7,Y⟩
   case measure=>simp [intOf];omega
  ·have b0:i=n:=(by omega);rw [b0,←l.out,dealD_all,l.out] at z;obtain⟨d,J⟩:=nm (cs.map yDa);rw [J] at z;have b1:d.length=n:=(by rw [←J,zK,l.out]);obtain⟨A,N⟩:∃A:Nat,yIm d s=A:=⟨(yIm d s).toNat,by rcases yGg s (d.length+1) d with h | h <;> (unfold yIm;omega)⟩;have g9:A≤1:=(by rcases yGg s (d.length+1) d with h | h <;> (unfold yIm at N;omega));have c8:(yAx cs s).1=yKb A n cs []:=by
    unfold yAx;rw [J,N,l.out];rfl
   have c9:(yAx cs s).2=A:=by
    unfold yAx;rw [J,N]
   have b2:=lh (Base_any s (some ⟨w,0,none⟩) d n n wr b1 z.rd hn (zT _) (by unfold maxLen;omega));rw [N] at b2;have h3:=lh J;have d1:=lh b1;have h4:=lh c8;have h5:=lh c9;have j9:w.heap.size<wr.heap.size:=z.lt.2;have h6:Rd .i8 wr (some ⟨w,0,none⟩) d:=z.rd;have h7:n=i:=b0.symm;subst h7;obtain⟨V,hV⟩:∃V,V=wr:=⟨_,rfl⟩;subst hV;clear z J b1 N c8 c9 U X b0;go_wp2_with (go_at_call 98;refine b2.out.mono ?_;rintro e w' ⟨rfl,O⟩;have D:=O.symm;clear O;subst D);have d2:=lh M;obtain⟨d3,d4⟩:=nm (yKb A n cs []);have d5:=lh d4;clear M b2 d4;go_loopw [0,6,10,11] (fun u0 u6 u10 _ F=>∃(b k f:Nat) (a0 d0:Option Addr) (H B:Nat) (j:List Nat),b+k=n∧u0=.slice a0 k H∧u6=.slice d0 k B∧k≤H∧H≤9223372036854775807∧k≤B∧B≤9223372036854775807 ∧
    Rd .i32 w a0 (cs.drop b)∧Rd .i8 V d0 (d.drop b)∧F.ownsRow V.heap.size 5 1 u10 j.length ((yg j).map (Value.int .u8))∧j.length=b∧Below V V F∧yKb A f (cs.drop b) j=d3∧k≤f)
    (fun u0 _ _ _ _=>match u0 with | .slice _ k _=>k | _=>0)
   case atStart=>exact⟨0,n,n,a,some ⟨w,0,none⟩,c,n,[],by omega,rfl,rfl,f3,f4,zT _,by omega,by rw [ZZ];exact hc,by rw [ZZ];exact h6,Zx _ _ _ _,rfl,Zc _ _,by rw [ZZ];exact d5.out,zT _⟩
   case round =>
    obtain⟨b,k,f,a0,d0,H,B,j,h8,rfl,rfl,h9,k0,i0,i1,Q,K,R,Z,t,m,i2⟩:=hrel;obtain⟨oa,oc,i3,k1,k2⟩:=yP R;subst i3;have S:(cs.drop b).length=k:=(by rw [zy,l.out];omega);have a1:(d.drop b).length=k:=(by rw [zy,d1.out];omega);cases k with
    | zero =>
      have d6:cs.drop b=[]:=qL S;have d7:j=d3:=by
       rw [d6] at m;cases f with
       | zero=>exact m
       | succ f=>rw [yKb,Zg rfl] at m;exact m
      have T:=lh R;have i4:=lh d7;have b3:=lh Z;clear R m d6 S a1 Q K d7 Z;go_wp2
      go_ret2
      have h1:=i4.out;have h2:=b3.out;subst h1;have d8:j.length=n:=(by omega);have e1:(yAx cs s).1=j:=h4.out.trans d5.out;refine⟨oa,oc,by rw [h5.out,d8];rfl,by rw [e1];exact d8,?_,d2.out.trans (t.mono (by omega))⟩;rw [e1];unfold yG;rw [yZ];exact yq T.out (by omega)
    | succ k' =>
      obtain⟨k,hk⟩:=nm (k'+1);have b3:=lh Z;have k3:j.length≤n:=(by omega);clear Z;rw [hk] at h8 h9 i0 S a1 i2 ⊢;have k4:0<k:=(by omega);obtain⟨L,rfl⟩:∃L,f=L+1:=⟨f-1,by omega⟩;rw [yKb,Zf (by intro e;rw [e] at S;simp at S;omega)] at m;have b4:(cs.drop b).map yDa=d.drop b:=(by rw [List.map_drop,h3.out]);rw [b4] at m;obtain⟨q,hq⟩:=nm (yJb (d.drop b));rw [hq,List.map_take,b4,List.drop_drop] at m;obtain⟨r,hr⟩:=nm (yJo (d.drop b) 10 k 0);have a2:=idxF_bd (d.drop b) 10 k 0;have C:=para_len (d.drop b);rw [a1,hr,hq] at C;rw [hr] at a2;have d9:0<q∧q≤k:=by
       rw [C];split
       ·omega
       ·rcases a2 with h | h
        ·contradiction
        ·omega
      obtain⟨G,o,rfl,a8,_⟩:=Q.at (Zc _ _) 0 (by omega);obtain⟨G2,o2,rfl,k5,_⟩:=K.at (Zc _ _) 0 (by omega);have e2:=lh (Ix8_any (some ⟨G2,o2,none⟩) (d.drop b) k B 10 wr a1 (K.below t) (by omega));rw [hr] at e2;obtain⟨E,e3⟩:=nm (paraI ((cs.drop b).take q) ((d.drop b).take q) A);have b5:=lh (fun W (hb:Below wr wr W)=>Para_any (some ⟨G,o,none⟩) (some ⟨G2,o2,none⟩) ((cs.drop b).take q) ((d.drop b).take q) q H B A W (by rw [za];omega) (by rw [za];omega)
       (yOd (Q.below (d2.out.trans ((t.trans (hb.mono t.size)).mono (by omega)))) q) (yOd (K.below (t.trans (hb.mono t.size))) q) (by omega) (by omega) i1 (by omega))
      unfold ParPost at b5;rw [e3] at b5 m;have HF:=lh m;have HK:=lh hk;have i6:=lh C;have T:=lh R;clear m hr C e3 b4 hq hk R;have k6:((k:Int) > 0):=(by omega);go_upto_if 38 with (go_at_call 99;refine e2.out.mono ?_;rintro e w' ⟨rfl,O⟩;have D:=O.symm;clear O;subst D);go_cut [11] (fun v F=>v=.int .i64 (q:Nat)∧F=wr)
      case first =>
       have e:=i6.out;by_cases hm:r = -1
       ·subst hm;rw [Zg rfl] at e;have HE:=lh e;clear e;go_wp2;go_meet;exact⟨by rw [HE.out],rfl⟩
       ·rw [Zf hm] at e;have HE:Hid (r+1=q):=lh (by rcases a2 with h | h <;> omega);have h0:((r+1)==0)=false:=(by rw [zN];rcases a2 with h | h <;> omega);clear e;go_wp2;go_meet;exact⟨by rw [HE.out],rfl⟩
      case rest =>
       obtain⟨rfl,e4⟩:=hcut;have i7:=e4.symm;clear e4;subst i7;have k7:(0:Int)≤(q:Int):=(by omega);have k8:(q:Int)≤(k:Int):=(by omega);have k9:(q:Int)≤(H:Int):=(by omega);have l0:(q:Int)≤(B:Int):=(by omega);go_upto_region 13 with fail
       go_region_held3 (fun w'=>True) (trivial) (first | (go_at_call 100;refine (b5.out wr.drew (yI (Zc _ _) 1)).mono ?_;rintro e w3 ⟨pa,pc,rfl,C,b6,Y⟩;obtain⟨Gp,i9,_,_,_⟩:=yG.at b6 0 (by rw [yZ,C];exact d9.1);subst i9;have b7:=(yI (Zc wr.heap.size wr) 1).trans Y;have j0:=lh b6;have b8:=lh b7;have e5:=b7.size;clear b6 Y b7) | (refine step_append_lies _ (by rfl) _ _ _ (by rfl) V.heap.size 5 i5 (.int .u8 0) 1 1 Tryz.underlying118 f5 f6 f7 f8 rfl (by decide) (.slice oa j.length oc) j.length ((yg j).map (Value.int .u8)) (by rfl) (by first | exact yCq T.out b8.out | exact World.ownsRow.drew (yCq T.out b8.out)) ⟨Gp,0,none⟩ q pc ((yg E).map (Value.int .u8)) (by rfl) (by rw [zK,yZ,C,Nat.mul_one]) (by exact yG.news j0.out) (by intro u hu;rw [ZG] at hu;obtain⟨x,_,rfl⟩:=hu;rfl) d9.1 (by unfold maxLen;omega) (by omega) (by exact zY t.size e5) _ rfl ?_;intro gg j1 w4 e6 e7 j2 l1))
       all_goals
        have e8:w4.ownsRow V.heap.size 5 1 (.slice (some ⟨gg,0,none⟩) (j.length+q) j1) (j++E).length ((yg (j++E)).map (Value.int .u8)):=by
         rw [zJ,C,ints_append,zW];exact e6
        have e9:Below V V w4:=(t.trans (b8.out.mono t.size)).grown e7 (by exact zY t.size e5) (fun g e=>(ZW T.out g e).1);have f0:∀I,I=some ⟨G,o+q,none⟩∨q=k→Rd .i32 w I (cs.drop (b+q)):=fun I b9=>by
         rcases b9 with rfl | rfl
         ·have:=yI4 Q q
          rwa [List.drop_drop] at this
         ·exact .inl (by rw [List.drop_eq_nil_iff,l.out];omega)
        have f1:∀I,I=some ⟨G2,o2+q,none⟩∨q=k→Rd .i8 V I (d.drop (b+q)):=fun I b9=>by
         rcases b9 with rfl | rfl
         ·have:=yI4 K q
          rwa [List.drop_drop] at this
         ·exact .inl (by rw [List.drop_eq_nil_iff,d1.out];omega)
        have a3:=lh e8;have a4:=lh e9;have a5:=lh f0;have a6:=lh f1;have f2:(j++E).length=b+q:=(by rw [zJ,C,b3.out]);have a7:=lh f2;clear e8 e9 f0 f1 f2 e6 e7 j2 Q K g9;by_cases l2:H=q
        ·by_cases j3:B=q
         ·go_wp2;go_quiet (fail);go_wp2;go_roundw
          case rel=>exact⟨b+q,k-q,L,_,_,_,_,j++E,by omega,rfl,rfl,by omega,by omega,by omega,by omega,a5.out _ (.inr (by omega)),a6.out _ (.inr (by omega)),a3.out,a7.out,yI a4.out _,HF.out,by omega⟩
          case measure=>show k-q<k;omega
         ·go_wp2;go_quiet (fail);go_wp2;go_roundw
          case rel=>exact⟨b+q,k-q,L,_,_,_,_,j++E,by omega,rfl,rfl,by omega,by omega,by omega,by omega,a5.out _ (.inr (by omega)),a6.out _ (.inr (by omega)),a3.out,a7.out,yI a4.out _,HF.out,by omega⟩
          case measure=>show k-q<k;omega
        ·by_cases j3:B=q
         ·go_wp2;go_quiet (fail);go_wp2;go_roundw
          case rel=>exact⟨b+q,k-q,L,_,_,_,_,j++E,by omega,rfl,rfl,by omega,by omega,by omega,by omega,a5.out _ (.inr (by omega)),a6.out _ (.inr (by omega)),a3.out,a7.out,yI a4.out _,HF.out,by omega⟩
          case measure=>show k-q<k;omega
         ·go_wp2;go_quiet (fail);go_wp2;go_roundw
          case rel=>exact⟨b+q,k-q,L,_,_,_,_,j++E,by omega,rfl,rfl,by omega,by omega,by omega,by omega,a5.out _ (.inl rfl),a6.out _ (.inl rfl),a3.out,a7.out,yI a4.out _,HF.out,by omega⟩
          case measure=>show k-q<k;omega
end
section
def mirrorI (r:Int):Int :=
 if (yA2 r).2.2=true then (yA2 r).1
 else if r=60∨r=65308 then r+2 else if r=62∨r=65310 then r-2
 else if r=171 then 187 else if r=187 then 171
 else if r=8249∨r=8250 then 16499-r else if r=8804∨r=8805 then 17609-r else r
def hangsF (d:Int) (h:Bool):Bool:=if d=11∨d=10 then true else if d≠12∧yDp d=false∧(d<19∨22<d) then false else h
def yIq (cs:List Int) (base fr:Nat):Nat→Bool→List Nat→List Nat
 | 0,_,out=>out
 | i+1,h,out =>
   yIq cs base fr i (hangsF (yDa (yH cs (fr+i))) h) (if hangsF (yDa (yH cs (fr+i))) h=true then (out.set i (min (out.getD i 0) 126)).set i base else out.set i (min (out.getD i 0) 126))
def yB6 (n:Nat) (x:Int):Nat:=min x.toNat n
def rowI (cs:List Int) (ls:List Nat) (base:Nat) (fr tt:Int):Option (List Nat) :=
 let n:=min cs.length ls.length
 if yB6 n tt<yB6 n fr then none
 else some (yIq cs (min base 126) (yB6 n fr) (yB6 n tt-yB6 n fr) true ((ls.drop (yB6 n fr)).take (yB6 n tt-yB6 n fr)))
open Go.RowKit
theorem yQk (r:Int) (w:World):Calls Tryz.prog 130 #[.int .i32 r] w fun e w'=>e=.returned (.int .i32 (mirrorI r))∧w=w':=by
 have d:mirrorI r=if (yA2 r).2.2=true then (yA2 r).1
  else if r=60∨r=65308 then r+2 else if r=62∨r=65310 then r-2
  else if r=171 then 187 else if r=187 then 171
  else if r=8249∨r=8250 then 16499-r else if r=8804∨r=8805 then 17609-r else r:=rfl
 have c:=lh (Pair_any r w);unfold yKw at c;obtain⟨p,n⟩:=nm (yA2 r);rw [n] at d c;obtain⟨o,s,q⟩:=p;simp only at d c;clear n;have l:=lh d;clear d;go_enter Tryz.func130,Tryz.ntmps130;cases q with
 | true =>
   go_wp2_with (go_at_call 170;refine c.out.mono ?_;rintro e w' ⟨rfl,a⟩;subst a);go_ret;exact⟨yK (by rw [l.out,Zg (by first | rfl | trivial)]),rfl⟩
 | false =>
   have e:=l.out;rw [Zf (by decide)] at e;have m:=lh e;clear e l;by_cases f:r=60∨r=65308
   ·have e:=m.out.trans (Zg f);have b:=lh e;clear e;rcases f with rfl | rfl
    all_goals
     go_wp2_with (go_at_call 170;refine c.out.mono ?_;rintro e w' ⟨rfl,a⟩;subst a);go_ret;exact⟨yK (by rw [b.out];rfl),rfl⟩
   ·have e:=m.out.trans (Zf f);by_cases g:r=62∨r=65310
    ·have b:=lh (e.trans (Zg g));clear e;rcases g with rfl | rfl
     all_goals
      go_wp2_with (go_at_call 170;refine c.out.mono ?_;rintro e w' ⟨rfl,a⟩;subst a);go_ret;exact⟨yK (by rw [b.out];rfl),rfl⟩
    ·replace e:=e.trans (Zf g);by_cases h:r=171
     ·have b:=lh (e.trans (Zg h));clear e;subst h;go_wp2_with (go_at_call 170;refine c.out.mono ?_;rintro e w' ⟨rfl,a⟩;subst a);go_ret;exact⟨yK (by rw [b.out]),rfl⟩
     ·replace e:=e.trans (Zf h);by_cases i:r=187
      ·have b:=lh (e.trans (Zg i));clear e;subst i;go_wp2_with (go_at_call 170;refine c.out.mono ?_;rintro e w' ⟨rfl,a⟩;subst a);go_ret;exact⟨yK (by rw [b.out]),rfl⟩
      ·replace e:=e.trans (Zf i);by_cases j:r=8249∨r=8250
       ·have b:=lh (e.trans (Zg j));clear e;rcases j with rfl | rfl
        all_goals
         go_wp2_with (go_at_call 170;refine c.out.mono ?_;rintro e w' ⟨rfl,a⟩;subst a);go_ret;exact⟨yK (by rw [b.out];rfl),rfl⟩
       ·replace e:=e.trans (Zf j);by_cases k:r=8804∨r=8805
        ·have b:=lh (e.trans (Zg k));clear e;rcases k with rfl | rfl
         all_goals
          go_wp2_with (go_at_call 170;refine c.out.mono ?_;rintro e w' ⟨rfl,a⟩;subst a);go_ret;exact⟨yK (by rw [b.out];rfl),rfl⟩
        ·have b:=lh (e.trans (Zf k));have t:(r==60)=false:=(by rw [zN];omega);have u:(r==65308)=false:=(by rw [zN];omega);have v:(r==62)=false:=(by rw [zN];omega);have x:(r==65310)=false:=(by rw [zN];omega);have y:(r==171)=false:=(by rw [zN];omega);have z:(r==187)=false:=(by rw [zN];omega);have A:(r==8249)=false:=(by rw [zN];omega);have B:(r==8250)=false:=(by rw [zN];omega);have C:(r==8804)=false:=(by rw [zN];omega);have D:(r==8805)=false:=(by rw [zN];omega);clear e f g h i j k m;go_wp2_with (go_at_call 170;refine c.out.mono ?_;rintro e w' ⟨rfl,a⟩;subst a);go_ret;exact⟨yK (by rw [b.out]),rfl⟩
end
section
open Go.RowKit
theorem ClU_any (a:Option Addr) (c L:Nat) (l:List Int) (w:World) (f:l.length=L) (g:Rd .u8 w a l) (J:L≤2097152) (K:a=none→c=0) :
 Calls Tryz.prog 167 #[.slice a L c] w fun e w'=>∃a d,e=.returned (.slice a L d)∧yG .u8 5 w' w.heap.size a d l∧Below w w w':=by
 obtain⟨v,y,z,A,B⟩:=info_parts (Tryz.info_u8);have M:∀(w:World) (a:Option Addr) (n c m d:Nat),(binOp .eql 118 (.slice a n c) (.slice none m d)).run Tryz.prog w=.ok (.bool a.isNone) w:=fun w a n c m d=>Lib.run_eql_slice_nil w _ _ a n c m d Tryz.underlying118;have p:=lh f;cases a with
 | none =>
   have q:l=[]:=by
    rcases g with h | ⟨_,_,e,_⟩
    ·exact h
    ·cases e
   have h0:L=0:=(by rw [←f,q];rfl);subst q h0;clear f g;go_enter Tryz.func167,Tryz.ntmps167;go_wp2;go_ret;exact⟨none,0,rfl,Zx _ _ _ _,Zc _ _⟩
 | some ad =>
   have r:∀j u,(l.map (Value.int .u8))[j]? = some u→(w.alloc (.cells #[] 5)).cell? (ad.add j)=some u:=fun j u i=>by
    have s:j<l.length:=by
     rcases JP j l.length with h | h
     ·exact h
     ·rw [qD (by rw [zK];exact h)] at i;cases i
    obtain⟨b,N,e,O,C⟩:=g.at ((Zc w.heap.size w).alloc (zT _) (.cells #[] 5)) j s;cases e;rw [zm,yLa s] at i;cases i;rw [JK,C]
   have D:=lh r;clear r f g;go_enter Tryz.func167,Tryz.ntmps167;go_wp2_with (at_builtin;refine wpList_append_own _ rfl _ _ 118 rfl w.heap.size 5 v (.int .u8 0) 1 1 Tryz.underlying118 y z A B rfl (by decide) _ _ _ rfl (World.ownsRow_made w #[] 0 (zT _) (zd _) (by simp)) ad L c (l.map (Value.int .u8)) rfl (by rw [zK,p.out];omega) D.out (fun u t=>by rw [ZG] at t;obtain⟨x,_,rfl⟩:=t;rfl) (by unfold maxLen;omega) (by omega) (by simp) ?_;intro P w' o E _);obtain⟨F,G,H,_,_⟩:=yP o;subst H;go_ret;rw [Za,zp] at o;refine⟨F,G,by rw [Za];rfl,?_,((Zc w.heap.size w).alloc (zT _) _).grown E (by simp) (fun k I=>by cases I;exact zT _)⟩;unfold yG;rw [p.out];exact o
def RowPost (R:Option (List Nat)) (w:World) (e':Ending) (w':World):Prop :=
 Below w w w'∧match R with
  | none=>e'=.returned (.slice none 0 0)
  | some l=>∃a c,e'=.returned (.slice a l.length c)∧yG .u8 5 w' w.heap.size a c (yg l)
theorem yM1 (cs:List Int) (base fr:Nat):∀(i:Nat) (h:Bool) (a:List Nat),(yIq cs base fr i h a).length=a.length
 | 0,h,a=>rfl
 | i+1,h,a=>by
   rw [yIq,yM1 cs base fr i];split <;> simp
theorem ints_take (l:List Nat) (k:Nat):yg (l.take k)=(yg l).take k:=by unfold yg;rw [List.map_take]
theorem ints_drop (l:List Nat) (k:Nat):yg (l.drop k)=(yg l).drop k:=by unfold yg;rw [List.map_drop]
theorem Row_any (a B:Option Addr) (cs:List Int) (C:List Nat) (l D c r base:Nat) (fr O:Int) (w:World) (h1:cs.length=l) (h2:C.length=D) (hc:Rd .i32 w a cs) (a6:Rd .u8 w B (yg C)) (g0:l≤2097152) (g1:D≤2097152)
 (g2:D≤r) (g3:r≤9223372036854775807) (c9:(B=none∧r=0)∨∃G o,B=some ⟨G,o,none⟩) :
 Calls Tryz.prog 127 #[.slice a l c,.slice B D r,.int .u8 base,fr,O] w (RowPost (rowI cs C base fr O) w):=by
 obtain⟨M,hM⟩:=nm (min l D);obtain⟨F,b⟩:=nm (yB6 M fr);obtain⟨T,Y⟩:=nm (yB6 M O);obtain⟨P,b5⟩:=nm (min base 126);have hR:rowI cs C base fr O=if T<F then none else some (yIq cs P F (T-F) true ((C.drop F).take (T-F))):=by
  unfold rowI;simp only [h1,h2,hM,b,Y,b5]
 rw [hR];have eM:min (l:Int) (D:Int)=(M:Int):=by omega
 have eF:min (max fr 0) (M:Int)=(F:Int):=by rw [←b];unfold yB6;omega
 have eT:min (max O 0) (M:Int)=(T:Int):=by rw [←Y];unfold yB6;omega
 have eB:min (base:Int) 126=(P:Int):=by omega
 have d0:F≤M:=by rw [←b];unfold yB6;omega
 have d1:T≤M:=by rw [←Y];unfold yB6;omega
 have H1:=lh h1;have H2:=lh h2;clear hM b Y b5 hR h1 h2;by_cases a7:T<F
 ·rw [Zg a7];have ht:(T:Int)<(F:Int):=(by omega);go_enter Tryz.func127,Tryz.ntmps127;go_wp2;go_ret;exact⟨Zc _ _,rfl⟩
 ·rw [Zf a7];obtain⟨K,hK⟩:=nm (T-F);rw [hK];obtain⟨E,Q⟩:=nm ((C.drop F).take K);rw [Q];have R:E.length=K:=(by rw [←Q,za,zy];have:=H2.out;omega);obtain⟨b6,Z⟩:=nm (yIq cs P F K true E);rw [Z];have b7:b6.length=K:=(by rw [←Z,yM1,R]);have g4:=lh b7;have d2:=lh Z;have HK:=lh hK;have d3:=lh R;have ht:¬ (T:Int)<(F:Int):=(by omega);have d4:(F:Int)≤(T:Int):=(by omega);have g5:(0:Int)≤(F:Int):=(by omega);have d5:(T:Int)≤(r:Int):=(by omega);have d6:(0:Int)≤(T:Int):=(by omega);have b8:∀H s,(H=B∧(F=0∨K=0)∨∃G o,B=some ⟨G,o,none⟩∧H=some ⟨G,o+F,none⟩)→(H=none→s=0) →
   Calls Tryz.prog 167 #[.slice H K s] w fun e w'=>∃a s,e=.returned (.slice a K s)∧yG .u8 5 w' w.heap.size a s (yg E)∧Below w w w':=fun H s d7 d8=>by
   refine ClU_any H s K (yg E) w (by rw [yZ];exact R) ?_ (by omega) d8;rcases d7 with ⟨rfl,h | h⟩ | ⟨G,o,e,rfl⟩
   ·subst h;rw [←Q,ZZ,ints_take];exact yOd a6 K
   ·exact .inl (qL (by rw [yZ,R];exact h))
   ·rw [e] at a6;rw [←Q,ints_take,ints_drop];exact yOd (yI4 a6 F) K
  have a0:=lh b8;clear b7 Z hK Q R b8 a7;go_enter Tryz.func127,Tryz.ntmps127;go_upto_region 5 with fail;go_cut [12] (fun v t=>∃i g,v=.slice i K g∧yG .u8 5 t w.heap.size i g (yg E)∧Below w w t)
  case first =>
   rcases c9 with ⟨rfl,rfl⟩ | ⟨G,o,rfl⟩
   ·have d9:T=0:=(by omega);have e0:F=0:=(by omega);have a8:K=0:=(by have:=HK.out;omega);subst d9 e0 a8;have I:=a0.out none 0 (.inl ⟨rfl,.inl rfl⟩) (fun _=>rfl);go_wp2_with (go_at_call 167;refine I.mono ?_;rintro e w1 ⟨i,g,rfl,m,n⟩);go_meet;exact⟨i,g,rfl,m,n⟩
   ·have a1:T-F=K:=HK.out;by_cases e1:r=F
    ·have a8:K=0:=(by omega);have e2:T=F:=(by omega);subst a8 e2;subst e1;have I:=a0.out (some ⟨G,o,none⟩) 0 (.inl ⟨rfl,.inr rfl⟩) (fun e=>by cases e);clear a1;go_wp2_with (go_at_call 167;refine I.mono ?_;rintro e w1 ⟨i,g,rfl,m,n⟩);go_meet;exact⟨i,g,rfl,m,n⟩
    ·have I:=a0.out (some ⟨G,o+F,none⟩) (r-F) (.inr ⟨G,o,rfl,rfl⟩) (fun e=>by cases e);rw [←a1] at I;have e3:=lh a1;clear a1;go_wp2_with (go_at_call 167;refine I.mono ?_;rintro e w1 ⟨i,g,rfl,m,n⟩);go_meet;exact⟨i,g,by rw [e3.out],m,n⟩
  case rest =>
   obtain⟨i,g,rfl,m,n⟩:=hcut;have g6:K≤l:=(by have:=HK.out;omega);have g7:F+K≤l:=(by have:=HK.out;omega);clear d0 d1 ht d4 d6 d5 a0 eM eF eT;go_wp2;go_loopw [13,14] (fun u13 u14 t=>∃(k:Nat) (z:Int) (h:Bool) (u:List Nat),u13=.bool h∧u14=.int .i64 z∧z+1=k∧k≤K∧yG .u8 5 t w.heap.size i g (yg u)∧u.length=K∧Below w w t∧yIq cs P F k h u=b6) (fun _ c _=>(intOf c+1).toNat)
   case atStart=>exact⟨K,(K:Int)-1,true,E,rfl,by go_num,by omega,zT _,m,d3.out,n,d2.out⟩
   case round =>
    obtain⟨k,z,h,u,rfl,rfl,b9,g8,S,U,a2,b⟩:=hrel;clear m n;cases k with
    | zero =>
      have hz:z = -1:=(by omega);subst hz;rw [yIq] at b;have HF:=lh b;have V:=lh U;have J:=lh S;clear b U b9 S;go_wp2;go_ret;refine⟨a2,?_⟩;have e:=HF.out;subst e;exact⟨i,g,by rw [V.out];rfl,J.out⟩
    | succ k =>
      have hz:z=(k:Int):=(by omega);subst hz;obtain⟨G,hG,_,e4,c0,e5,_,_⟩:=S.at k (by rw [yZ,U];omega);subst hG;obtain⟨Gc,co,rfl,g9,a9⟩:=hc.at a2 (F+k) (by rw [H1.out];omega);obtain⟨x,hx⟩:=nm (u.getD k 0);rw [yAt,hx] at c0;obtain⟨y,hy⟩:=nm (yH cs (F+k));rw [hy] at a9;rw [yIq,hy,hx] at b;obtain⟨q,c1⟩:=nm (min x 126);rw [c1] at b;have e6:min (x:Int) 126=(q:Int):=(by omega);obtain⟨d,hd⟩:=nm (yDa y);rw [hd] at b;obtain⟨hh,b0⟩:=nm (hangsF d h);rw [b0] at b;have HF:=lh b;have J:=lh S;have V:=lh U;have e7:=lh a2;have HH:Hid (hh=if d=11∨d=10 then true else if d≠12∧yDp d=false∧(d<19∨22<d) then false else h):=lh b0.symm;have e8:Hid (∀W,Calls Tryz.prog 97 #[.int .i32 y] W fun e w'=>e=.returned (.int .i8 d)∧Below W.heap.size W w'):=lh fun W=>by rw [←hd];exact yOg y W
      have h0:(0:Int)≤(k:Int):=(by omega);have h3:(k:Int)<(K:Int):=(by omega);have h4:(F:Int)+(k:Int)<(l:Int):=(by omega);clear b S U a2 hx hy c1 hd b0 b9;go_upto_region 12 with fail;have X:yG .u8 5 (wr.setCell ⟨G,k,none⟩ (.int .u8 (q:Nat))) w.heap.size (some ⟨G,0,none⟩) g (yg (u.set k q)):=(by rw [yQe];exact J.out.set k q);have b1:Below w w (wr.setCell ⟨G,k,none⟩ (.int .u8 (q:Nat))):=e7.out.setCell (p:=⟨G,k,none⟩) (by exact (J.out.lt).1) _;have e9:(wr.setCell ⟨G,k,none⟩ (.int .u8 (q:Nat))).cell? ⟨Gc,co+(F+k),none⟩=some (.int .i32 y):=(JL (a:=⟨Gc,co+(F+k),none⟩) (heap_setCell_other wr ⟨G,k,none⟩ Gc _ (by show Gc≠G;have:=(J.out.lt).1;omega))).trans a9;obtain⟨w2,c2⟩:∃w2,w2=wr.setCell ⟨G,k,none⟩ (.int .u8 (q:Nat)):=⟨_,rfl⟩;rw [←c2] at X b1 e9 ⊢;have c3:G<w2.heap.size:=X.lt.2;have f0:=lh X;have c4:=lh b1;obtain⟨_,f1,_,_,c5,f2,_,_⟩:=X.at k (by rw [yZ,ZQ,V.out];omega);cases f1;generalize yH (yg (u.set k q)) k=vv at c5;clear X b1 c2 c0 e5 a9 e6 e4;go_upto_block 2 with (go_at_call 97;refine (e8.out _).mono ?_;rintro e w3 ⟨rfl,a3⟩;have f3:=(a3.cell (p:=⟨G,k,none⟩) c3).trans c5;have f4:=(a3.frozen (p:=⟨G,k,none⟩) c3).trans f2;have c6:=lh a3;clear a3);go_cut [13] (fun v t=>v=.bool hh∧t=w3)
      case first =>
       obtain⟨lb,b2⟩:=nm (yDp d);have a4:Hid (∀W,Calls Tryz.prog 146 #[.int .i8 d] W fun e w'=>e=.returned (.bool lb)∧W=w'):=lh fun W=>by rw [←b2];exact vleft_any d W
       have a5:=HH;rw [b2] at a5;clear b2 f3 f4;by_cases L:d=11
       ·subst L;have f:=lh (a5.out.trans (Zg (.inl rfl)));go_wp2;go_meet;exact⟨by rw [f.out],rfl⟩
       ·by_cases N:d=10
        ·subst N;have f:=lh (a5.out.trans (Zg (.inr rfl)));go_wp2;go_meet;exact⟨by rw [f.out],rfl⟩
        ·have e:=a5.out.trans (Zf (by omega));have h5:(d==11)=false:=(by simpa using L);have h6:(d==10)=false:=(by simpa using N);by_cases j:d=12
         ·subst j;have f:=lh (e.trans (Zf (fun h=>h.1 rfl)));clear e;go_wp2;go_meet;exact⟨by rw [f.out],rfl⟩
         ·have h7:(d==12)=false:=(by simpa using j);have h8:(d != 12)=true:=(by simpa using j);cases lb with
          | true =>
            have f:=lh (e.trans (Zf (fun h=>by have:=h.2.1;simp at this)));clear e N L j;go_wp2_with (go_at_call 146;refine (a4.out _).mono ?_;rintro e w' ⟨rfl,A⟩;subst A);go_meet;exact⟨by rw [f.out],rfl⟩
          | false =>
            by_cases f5:d<19
            ·have f:=lh (e.trans (Zg ⟨j,rfl,.inl f5⟩));clear e N L j;go_wp2_with (go_at_call 146;refine (a4.out _).mono ?_;rintro e w' ⟨rfl,A⟩;subst A);go_meet;exact⟨by rw [f.out],rfl⟩
            ·by_cases f6:22<d
             ·have f:=lh (e.trans (Zg ⟨j,rfl,.inr f6⟩));clear e N L j;go_wp2_with (go_at_call 146;refine (a4.out _).mono ?_;rintro e w' ⟨rfl,A⟩;subst A);go_meet;exact⟨by rw [f.out],rfl⟩
             ·have f:=lh (e.trans (Zf (fun h=>by have:=h.2.2;omega)));clear e N L j;go_wp2_with (go_at_call 146;refine (a4.out _).mono ?_;rintro e w' ⟨rfl,A⟩;subst A);go_meet;exact⟨by rw [f.out],rfl⟩
      case rest =>
       obtain⟨rfl,c7⟩:=hcut;have f7:=c7.symm;clear c7;subst f7;have b3:=f0.out.keep c6.out;have b4:=b3.set k P;rw [←yQe] at b4;have f8:=lh b3;have f9:=lh b4;have c8:Hid (Below w w w3):=lh (c4.out.trans (c6.out.mono c4.out.size));clear b3 b4;cases hh with
       | true =>
         go_wp2;go_roundw
         case rel=>exact⟨k,(k:Int)-1,true,_,rfl,by go_num,by omega,by omega,f9.out,by rw [ZQ,ZQ];exact V.out,c8.out.setCell (p:=⟨G,k,none⟩) (by exact (J.out.lt).1) _,by have:=HF.out;rwa [Zg (by first | rfl | trivial)] at this⟩
         case measure=>simp [intOf]
       | false =>
         go_wp2;go_roundw
         case rel=>exact⟨k,(k:Int)-1,false,_,rfl,by go_num,by omega,by omega,f8.out,by rw [ZQ];exact V.out,c8.out,by have:=HF.out;rwa [Zf (by simp)] at this⟩
         case measure=>simp [intOf]
end
section
def loF (lv:Nat→Nat) (x:Nat):Nat→Nat
 | 0=>0
 | p+1=>if x≤lv p then loF lv x p else p+1
def hiF (lv:Nat→Nat) (x:Nat):Nat→Nat→Nat
 | 0,p=>p
 | m+1,p=>if x≤lv p then hiF lv x m (p+1) else p
def yHz (lv:Nat→Nat) (n x p:Nat):Nat:=if p<n∧x≤lv p then loF lv x p+hiF lv x (n-p) p-1-p else p
structure Str (lv:Nat→Nat) (n x s e:Nat):Prop where
 se:s≤e
 en:e≤n
 all:∀q,s≤q→q<e→x≤lv q
 left:s=0∨lv (s-1)<x
 right:e=n∨lv e<x
theorem lo_of {lv:Nat→Nat} {x s:Nat} (a:s=0∨lv (s-1)<x):∀d,(∀q,s≤q→q<s+d→x≤lv q)→loF lv x (s+d)=s
 | 0,_=>by
   cases s with
   | zero=>rfl
   | succ s =>
     show (if x≤lv s then loF lv x s else s+1)=s+1;rw [Zf];rcases a with h | h
     ·cases h
     ·rw [Ze] at h;omega
 | d+1,h=>by
   show (if x≤lv (s+d) then loF lv x (s+d) else s+d+1)=s;rw [Zg (h (s+d) (by omega) (by omega))];exact lo_of a d (fun q b c=>h q b (by omega))
theorem hi_of {lv:Nat→Nat} {x e:Nat}:∀m p,p≤e→e≤p+m→(∀q,p≤q→q<e→x≤lv q)→(e=p+m∨lv e<x)→hiF lv x m p=e
 | 0,p,b,a,_,_=>by show p=e;omega
 | m+1,p,b,a,h3,h4=>by
   show (if x≤lv p then hiF lv x m (p+1) else p)=e;by_cases h:p=e
   ·subst h;rw [Zf];rcases h4 with h | h <;> omega
   ·rw [Zg (h3 p (by omega) (by omega))];exact hi_of m (p+1) (by omega) (by omega) (fun q b a=>h3 q (by omega) a) (by rcases h4 with h | h;exact .inl (by omega);exact .inr h)
theorem lo_str (lv:Nat→Nat) (x:Nat):∀p,loF lv x p≤p∧(∀q,loF lv x p≤q→q<p→x≤lv q)∧(loF lv x p=0∨lv (loF lv x p-1)<x)
 | 0=>⟨zT _,fun q d c=>qF c (by omega),.inl rfl⟩
 | p+1=>by
   obtain⟨d,c,e⟩:=lo_str lv x p;unfold loF;by_cases h:x≤lv p
   ·rw [Zg h];exact⟨by omega,fun q a b=>by
     by_cases f:q=p
     ·subst f;exact h
     ·exact c q a (by omega),e⟩
   ·rw [Zf h];exact⟨zT _,fun q a b=>qF b (by omega),.inr (by rw [Ze];omega)⟩
theorem hi_str (lv:Nat→Nat) (x:Nat):∀m p,p≤hiF lv x m p∧hiF lv x m p≤p+m∧(∀q,p≤q→q<hiF lv x m p→x≤lv q)∧(hiF lv x m p=p+m∨lv (hiF lv x m p)<x)
 | 0,p=>⟨zT _,zT _,fun q e d=>qF d (by unfold hiF;omega),.inl rfl⟩
 | m+1,p=>by
   obtain⟨e,d,f,c⟩:=hi_str lv x m (p+1);unfold hiF;by_cases h:x≤lv p
   ·rw [Zg h];exact⟨by omega,by omega,fun q a b=>by
     by_cases g:q=p
     ·subst g;exact h
     ·exact f q (by omega) b,by rcases c with c | c;exact .inl (by omega);exact .inr c⟩
   ·rw [Zf h];exact⟨zT _,by omega,fun q a b=>qF b (by omega),.inr (by omega)⟩
theorem str_at {lv:Nat→Nat} {n x p:Nat} (k:p<n) (l:x≤lv p):∃s e,Str lv n x s e∧s≤p∧p<e:=by
 obtain⟨c,d,f⟩:=lo_str lv x p;obtain⟨m,o,g,a⟩:=hi_str lv x (n-p) p;refine⟨loF lv x p,hiF lv x (n-p) p,⟨by omega,by omega,fun q i j=>?_,f,?_⟩,c,?_⟩
 ·by_cases h:q<p
  ·exact d q i h
  ·exact g q (by omega) j
 ·rcases a with h | h
  ·exact .inl (by omega)
  ·exact .inr h
 ·by_cases h:hiF lv x (n-p) p=p
  ·rcases a with b | b
   ·omega
   ·rw [h] at b;omega
  ·omega
theorem yOb {lv:Nat→Nat} {n x s e p:Nat} (h:Str lv n x s e) (c:s≤p) (d:p<e):yHz lv n x p=s+e-1-p:=by
 have f:loF lv x p=s:=by
  have:=lo_of (lv:=lv) h.left (p-s) (fun q a b=>h.all q a (by omega))
  rwa [show s+(p-s)=p by omega] at this
 have g:hiF lv x (n-p) p=e:=hi_of (n-p) p (by omega) (by have:=h.en;omega) (fun q a b=>h.all q (by omega) b) (by
  rcases h.right with r | r
  ·exact .inl (by have:=h.en;omega)
  ·exact .inr r)
 unfold yHz;rw [Zg ⟨by have:=h.en;omega,h.all p c d⟩,f,g]
theorem yLq {lv:Nat→Nat} {n x p:Nat} (h:¬ (p<n∧x≤lv p)):yHz lv n x p=p:=Zf h
theorem rev_in {lv:Nat→Nat} {n x s e p:Nat} (h:Str lv n x s e) (a:s≤p) (b:p<e):s≤yHz lv n x p∧yHz lv n x p<e:=by
 rw [yOb h a b];omega
theorem rev_rev (lv:Nat→Nat) (n x p:Nat):yHz lv n x (yHz lv n x p)=p:=by
 by_cases h:p<n∧x≤lv p
 ·obtain⟨s,e,a,b,c⟩:=str_at h.1 h.2;have d:=rev_in a b c;rw [yOb a d.1 d.2,yOb a b c];omega
 ·rw [yLq h,yLq h]
theorem rev_lt {lv:Nat→Nat} {n x p:Nat} (b:p<n):yHz lv n x p<n:=by
 by_cases h:p<n∧x≤lv p
 ·obtain⟨s,e,a,c,d⟩:=str_at h.1 h.2;have f:=rev_in a c d;have:=a.en;omega
 ·rw [yLq h];exact b
theorem rev_lv {lv:Nat→Nat} {n x y p:Nat} (i:y≤x):(y≤lv (yHz lv n x p))↔y≤lv p:=by
 by_cases h:p<n∧x≤lv p
 ·obtain⟨s,e,c,d,f⟩:=str_at h.1 h.2;have g:=rev_in c d f;have a:=c.all _ g.1 g.2;have b:=c.all _ d f;omega
 ·rw [yLq h]
def oF (lv:Nat→Nat) (n:Nat):Nat→Nat→Nat→Nat
 | _,0,p=>p
 | x,d+1,p=>oF lv n (x+1) d (yHz lv n x p)
def tF (lv:Nat→Nat) (n:Nat):Nat→Nat→Nat→Nat
 | _,0,k=>k
 | x,d+1,k=>yHz lv n x (tF lv n (x+1) d k)
theorem oF_tF (lv:Nat→Nat) (n:Nat):∀d x k,oF lv n x d (tF lv n x d k)=k
 | 0,_,_=>rfl
 | d+1,x,k=>by show oF lv n (x+1) d (yHz lv n x (yHz lv n x (tF lv n (x+1) d k)))=k;rw [rev_rev,oF_tF lv n d (x+1) k]
theorem tF_oF (lv:Nat→Nat) (n:Nat):∀d x p,tF lv n x d (oF lv n x d p)=p
 | 0,_,_=>rfl
 | d+1,x,p=>by show yHz lv n x (tF lv n (x+1) d (oF lv n (x+1) d (yHz lv n x p)))=p;rw [tF_oF lv n d (x+1),rev_rev]
theorem tF_lt {lv:Nat→Nat} {n:Nat}:∀d x k,k<n→tF lv n x d k<n
 | 0,_,_,h=>h
 | d+1,x,k,h=>rev_lt (tF_lt d (x+1) k h)
theorem oF_lt {lv:Nat→Nat} {n:Nat}:∀d x p,p<n→oF lv n x d p<n
 | 0,_,_,h=>h
 | d+1,x,p,h=>oF_lt d (x+1) _ (rev_lt h)
theorem oF_lv {lv:Nat→Nat} {n y:Nat}:∀d x p,y≤x→((y≤lv (oF lv n x d p))↔y≤lv p)
 | 0,_,_,_=>Iff.rfl
 | d+1,x,p,h=>(oF_lv d (x+1) _ (by omega)).trans (rev_lv h)
open Go.RowKit
def yAl (n:Nat) (g:Nat→Int):List Int:=(List.range n).map g
theorem yBi (n:Nat) (g:Nat→Int):(yAl n g).length=n:=by unfold yAl;simp
theorem yFl (n:Nat) (g:Nat→Int) (p:Nat) (h:p<n):yH (yAl n g) p=g p:=by
 unfold yAl yH;rw [zI,zm,JO h];rfl
theorem list_ext {a b:List Int} (d:a.length=b.length) (h:∀p,p<a.length→yH a p=yH b p):a=b:=by
 apply List.ext_getElem d;intro i c e;have:=h i c;unfold yH at this;rw [zI,zI,zF c,zF e] at this;exact this
theorem yAp {n:Nat} {g h:Nat→Int} (e:∀p,p<n→g p=h p):yAl n g=yAl n h:=by
 unfold yAl;exact List.map_congr_left fun p a=>e p (List.mem_range.1 a)
theorem yKq (n:Nat) (g:Nat→Int) (i:Nat) (v:Int) (h:i<n):(yAl n g).set i v=yAl n (fun p=>if p=i then v else g p):=by
 refine list_ext (by rw [ZQ,yBi,yBi]) fun p a=>?_;rw [ZQ,yBi] at a;rw [ith_set _ _ _ _ (by rw [yBi];exact h),yFl _ _ _ a,yFl _ _ _ a];by_cases e:i=p
 ·rw [Zg e,Zg e.symm]
 ·rw [Zf e,Zf (fun h=>e h.symm)]
def yFu (g:Nat→Int) (f m k:Nat) (p:Nat):Int:=if (f≤p∧p<f+k)∨(f+m-k≤p∧p<f+m) then g (f+(f+m)-1-p) else g p
def revG (g:Nat→Int) (f m:Nat) (p:Nat):Int:=if f≤p∧p<f+m then g (f+(f+m)-1-p) else g p
theorem swapG_zero (g:Nat→Int) (f m p:Nat):yFu g f m 0 p=g p:=by
 unfold yFu;rw [Zf (by omega)]
theorem swapG_end (g:Nat→Int) (f m k p:Nat) (h:m≤2*k+1) (c:2*k≤m):yFu g f m k p=revG g f m p:=by
 unfold yFu revG;by_cases b:f≤p∧p<f+m
 ·rw [Zg b];by_cases a:(f≤p∧p<f+k)∨(f+m-k≤p∧p<f+m)
  ·rw [Zg a]
  ·rw [Zf a]
   congr 1
   omega
 ·rw [Zf b];by_cases a:(f≤p∧p<f+k)∨(f+m-k≤p∧p<f+m)
  ·omega
  ·rw [Zf a]
theorem swapG_next (g:Nat→Int) (f m k p:Nat) (h:2*k+1<m) :
 (if p=f+(m-1-k) then g (f+k) else if p=f+k then g (f+(m-1-k)) else yFu g f m k p)=yFu g f m (k+1) p:=by
 unfold yFu;by_cases a:p=f+(m-1-k)
 ·rw [Zg a,Zg (by omega)]
  congr 1;omega
 ·rw [Zf a];by_cases b:p=f+k
  ·rw [Zg b,Zg (by omega)]
   congr 1;omega
  ·rw [Zf b];by_cases c:(f≤p∧p<f+k)∨(f+m-k≤p∧p<f+m)
   ·rw [Zg c,Zg (by omega)]
   ·rw [Zf c,Zf (by omega)]
theorem turn_nil (a:Option Addr) (c:Nat) (w:World):Calls Tryz.prog 132 #[.slice a 0 c] w fun e w'=>e=.returned (.tuple #[])∧w=w':=by
 go_enter Tryz.func132,Tryz.ntmps132;go_wp2;go_loopw [2,3] (fun u2 u3 b=>u2=.int .i64 0∧u3=.int .i64 (-1)∧w=b) (fun _ _ _=>0)
 case atStart=>exact⟨rfl,by go_num,rfl⟩
 case round =>
  obtain⟨rfl,rfl,d⟩:=hrel;subst d;go_wp2
  go_end0
  exact⟨rfl,rfl⟩
theorem turn_any (G f m c base N n:Nat) (g:Nat→Int) (w:World) (a:yG .i64 3 w base (some ⟨G,0,none⟩) N (yAl n g)) (K:f+m≤n) (L:n≤2097152) (M:m≤c) :
 Calls Tryz.prog 132 #[.slice (some ⟨G,f,none⟩) m c] w fun e w'=>e=.returned (.tuple #[])∧yG .i64 3 w' base (some ⟨G,0,none⟩) N (yAl n (revG g f m))∧w.grownBy w' (some G):=by
 have D:=lh a;clear a;go_enter Tryz.func132,Tryz.ntmps132;go_wp2;go_loopw [2,3] (fun u2 u3 v=>∃(k:Nat) (z:Int),u2=.int .i64 k∧u3=.int .i64 z∧z+1+k=m∧2*k≤m∧yG .i64 3 v base (some ⟨G,0,none⟩) N (yAl n (yFu g f m k))∧w.grownBy v (some G)) (fun u2 _ _=>m-(intOf u2).toNat)
 case atStart=>exact⟨0,(m:Int)-1,rfl,by go_num,by omega,by omega,by rw [yAp (fun p _=>swapG_zero g f m p)];exact D.out,World.grownBy.refl _ _⟩
 case round =>
  obtain⟨k,z,rfl,rfl,O,E,a,h⟩:=hrel;by_cases F:2*k+1<m
  ·obtain⟨b,rfl⟩:∃b:Nat,z=b:=⟨z.toNat,by omega⟩;have x:b=m-1-k:=(by omega);obtain⟨_,j,_,_,l,P,_,_⟩:=a.at (f+k) (by rw [yBi];omega);cases j;obtain⟨_,j,_,_,o,Q,_,_⟩:=a.at (f+b) (by rw [yBi];omega);cases j;rw [yFl _ _ _ (by omega)] at l o;have y:yFu g f m k (f+k)=g (f+k):=(by unfold yFu;rw [Zf (by omega)]);have A:yFu g f m k (f+b)=g (f+b):=(by unfold yFu;rw [Zf (by omega)]);rw [y] at l;rw [A] at o;obtain⟨q,r⟩:=nm (g (f+k));obtain⟨s,t⟩:=nm (g (f+b));rw [r] at l;rw [t] at o;have B:((yAl n (yFu g f m k)).set (f+k) s).set (f+b) q=yAl n (yFu g f m (k+1)):=by
    rw [yKq _ _ _ _ (by omega),yKq _ _ _ _ (by omega)];refine yAp fun p R=>?_;rw [←swapG_next g f m k p F,←r,←t,x]
   have u:=(a.set (f+k) s).set (f+b) q;rw [B] at u;have H:=lh u;have C:=yM3 (i:=f+b) (yM3 (i:=f+k) h (.int .i64 s)) (.int .i64 q);have d:=lh C;have S:(0:Int)≤(k:Int):=(by omega);have T:(k:Int)<(m:Int):=(by omega);have U:(0:Int)≤(b:Int):=(by omega);have V:(b:Int)<(m:Int):=(by omega);have W:(k:Int)<(b:Int):=(by omega);have X:f+k≠f+b:=(by omega);have Y:f+b≠f+k:=(by omega);have Z:k≠b:=(by omega);have a0:b≠k:=(by omega);clear y A r t B u C a h x;go_wp2
   go_region
   all_goals go_wp2
   go_roundw
   case rel=>exact⟨k+1,(b:Int)-1,by go_num,by go_num,by omega,by omega,H.out,⟨d.out.os,d.out.tape,d.out.output,d.out.size,d.out.block⟩⟩
   case measure=>simp [intOf];omega
  ·have a1:¬ ((k:Int)<z):=(by omega);rw [yAp (fun p _=>swapG_end g f m k p (by omega) E)] at a;have I:=lh a;have J:=lh h;clear a h;go_wp2
   go_end0
   exact⟨rfl,I.out,J.out⟩
end
section
open Go.RowKit
def lvF (ls:List Nat) (i:Nat):Nat:=min (ls.getD i 0) 126
def topF (ls:List Nat):Nat→Nat
 | 0=>0
 | i+1=>max (topF ls i) (lvF ls i)
theorem topF_le (a:List Nat):∀i,topF a i≤126
 | 0=>zd _
 | i+1=>by have:=topF_le a i;rw [topF];unfold lvF;omega
def yOx (ls:List Nat) (n x d p:Nat):Int:=((oF (lvF ls) n (x+1) d p:Nat):Int)
def orderI (ls:List Nat):List Int:=yAl ls.length (yOx ls ls.length 0 (topF ls ls.length))
def yJr (ls:List Nat) (n x d fr p:Nat):Int:=yOx ls n (x+1) d (if p<fr then yHz (lvF ls) n (x+1) p else p)
theorem ordG_next (a:List Nat) (n x d p:Nat):yOx a n (x+1) d (yHz (lvF a) n (x+1) p)=yOx a n x (d+1) p:=rfl
theorem midG_zero (a:List Nat) (n x d p:Nat):yJr a n x d 0 p=yOx a n (x+1) d p:=by
 unfold yJr;rw [Zf (Zo _)]
theorem yOs (a:List Nat) (n x d fr p:Nat) (h:p<n) (b:n≤fr):yJr a n x d fr p=yOx a n x (d+1) p:=by
 unfold yJr;rw [Zg (by omega),ordG_next]
theorem midG_turn (a:List Nat) (n x d fr i p:Nat) (e:fr≤i) (f:i≤n) (m:p<n) (g:fr=0∨lvF a (fr-1)<x+1) (j:∀q,fr≤q→q<i→x+1≤lvF a q) (b:i=n∨lvF a i<x+1) :
 revG (yJr a n x d fr) fr (i-fr) p=yJr a n x d (i+1) p:=by
 have k:Str (lvF a) n (x+1) fr i:=⟨e,f,j,g,b⟩;unfold revG;by_cases h:fr≤p∧p<fr+(i-fr)
 ·rw [Zg h];unfold yJr;rw [Zf (by omega),Zg (by omega),yOb k h.1 (by omega)]
  congr 1
  omega
 ·rw [Zf h];unfold yJr;by_cases c:p<fr
  ·rw [Zg c,Zg (by omega)]
  ·rw [Zf c];by_cases l:p=i
   ·rw [Zg (by omega),yLq (by rcases b with h | h <;> (subst l;omega))]
   ·rw [Zf (by omega)]
def yK5 (n i:Nat) (p:Nat):Int:=if p<i then p else 0
def OrdPost (ls:List Nat) (n:Nat) (w:World) (e:Ending) (w':World):Prop :=
 e=.returned (.slice (some ⟨w,0,none⟩) n n)∧yG .i64 3 w' w.heap.size (some ⟨w,0,none⟩) n (orderI ls)∧Below w w w'
theorem Order_any (a:Option Addr) (b:List Nat) (n c:Nat) (w:World) (N:b.length=n) (hd:Rd .u8 w a (yg b)) (hn:n≤2097152) :
 Calls Tryz.prog 88 #[.slice a n c] w (OrdPost b n w):=by
 obtain⟨i3,c5,c6,c7,c8⟩:=info_parts (Tryz.info_int);have HL:=lh N;have b0:orderI b=yAl n (yOx b n 0 (topF b n)):=by unfold orderI;rw [N]
 have b1:=lh b0;have c9:=run_make_row (P:=Tryz.prog) 93 3 i3 (.int .i64 0) Tryz.underlying93 c5 c6 c7 rfl .i64 .i64 n (by rw [c8];omega) (by omega);clear N b0;go_enter Tryz.func88,Tryz.ntmps88;go_wp2;refine wp_scope_straight ?_;go_wp2;clear c9;have b2:yG .i64 3 (w.alloc (.cells (madeCells #[.int .i64 0] n) 3)) w.heap.size (some ⟨w,0,none⟩) n (yAl n (yK5 n 0)) :=
  yCj ((JQ w (.int .i64 0) n 3).congr fun i E=>by rw [yFl _ _ _ E];unfold yK5;rw [Zf (Zo _)]) (yBi _ _) (zT _) (by unfold maxLen;omega)
 have b3:=(Zc w.heap.size w).alloc (zT _) (.cells (madeCells #[.int .i64 0] n) 3);go_loopw [4,5,6,15] (fun u4 _ _ u s=>∃i:Nat,i≤n∧u=.int .i64 i∧u4=.int .u8 (topF b i:Nat)∧yG .i64 3 s w.heap.size (some ⟨w,0,none⟩) n (yAl n (yK5 n i))∧Below w w s) (fun _ _ _ u _=>n-(intOf u).toNat)
 case atStart=>exact⟨0,by omega,rfl,rfl,b2,b3⟩
 case round =>
  obtain⟨i,E,rfl,rfl,f,j⟩:=hrel;clear b2 b3;by_cases r:i<n
  ·obtain⟨G,o,rfl,hG,A⟩:=hd.at j i (by rw [yZ,HL.out];exact r);rw [yAt] at A;obtain⟨x,O⟩:=nm (b.getD i 0);rw [O] at A;obtain⟨_,Q,_,_,R,e6,_,_⟩:=f.at i (by rw [yBi];exact r);cases Q;generalize yH (yAl n (yK5 n i)) i=vo at R;have S:=f.set i (i:Int);have b4:(yAl n (yK5 n i)).set i (i:Int)=yAl n (yK5 n (i+1)):=by
    rw [yKq _ _ _ _ r];refine yAp fun p l=>?_;unfold yK5;by_cases e:p=i
    ·rw [Zg e,Zg (by omega),e]
    ·rw [Zf e];by_cases e2:p<i
     ·rw [Zg e2,Zg (by omega)]
     ·rw [Zf e2,Zf (by omega)]
   rw [b4] at S;obtain⟨T,U⟩:=nm (lvF b i);have e7:min (x:Int) 126=(T:Int):=(by rw [←U];unfold lvF;rw [O];omega);have b5:topF b (i+1)=max (topF b i) T:=(by rw [topF,U]);obtain⟨tp,V⟩:=nm (topF b i);obtain⟨tq,W⟩:=nm (topF b (i+1));rw [V,W] at b5;have e8:max (tp:Int) (T:Int)=(tq:Int):=(by omega);have d0:=lh W;have HS:=lh S;have HB:=lh (j.setCell (p:=⟨w.heap.size,i,none⟩) (zT _) (.int .i64 (i:Int)));have d1:(0:Int)≤(i:Int):=(by omega);have d2:(i:Int)<(n:Int):=(by omega);rw [V];clear O U b5 V W S b4 f j;go_wp2;go_roundw
   case rel=>exact⟨i+1,by omega,by go_num,by rw [d0.out],HS.out,HB.out⟩
   case measure=>simp [intOf];omega
  ·have B:n=i:=(by omega);subst B;obtain⟨g,Y⟩:=nm (topF b n);have e9:g≤126:=(by rw [←Y];exact topF_le b n);rw [Y] at b1 ⊢;have C:yG .i64 3 wr w.heap.size (some ⟨w,0,none⟩) n (yAl n (yOx b n g 0)):=by
    rw [yAp (fun p l=>show yOx b n g 0 p=yK5 n n p by unfold yK5;rw [Zg l];rfl)];exact f
   have b6:=lh C;have b7:=lh j;clear f Y C j E r;go_wp2;refine wp_label ?_;go_wp2;go_loopw [7,8,9,37] (fun u7 _ _ _ s=>∃x d:Nat,u7=.int .u8 x∧x+d=g∧yG .i64 3 s w.heap.size (some ⟨w,0,none⟩) n (yAl n (yOx b n x d))∧Below w w s) (fun u7 _ _ _ _=>(intOf u7).toNat)
   case atStart=>exact⟨g,0,rfl,by omega,b6.out,b7.out⟩
   case round =>
    obtain⟨x,d,rfl,d3,f,j⟩:=hrel;clear b6 b7;cases x with
    | zero =>
      have b8:d=g:=(by omega);rw [b8,←b1.out] at f;clear d3 b8;go_wp2;unfold Exit.noGoto;go_ret;exact⟨rfl,f,j⟩
    | succ x =>
      obtain⟨X,Z⟩:=nm (x+1);rw [Z] at f ⊢;have f0:((X:Int)==0)=false:=(by rw [zN];omega);have f1:X≤126:=(by omega);have C:yG .i64 3 wr w.heap.size (some ⟨w,0,none⟩) n (yAl n (yJr b n x d 0)):=by
       rw [yAp (fun p _=>midG_zero b n x d p),Z];exact f
      have HX:=lh Z;have b9:=lh C;have c0:=lh j;clear f C j;go_wp2;go_loopw [8,9,37] (fun u8 _ u s=>∃i fr:Nat,u=.int .i64 i∧u8=.int .i64 fr∧i≤n+1∧fr≤i∧(i=n+1→fr=n+1)∧(fr=0∨lvF b (fr-1)<x+1∨fr=n+1)∧(∀q,fr≤q→q<i→q<n→x+1≤lvF b q)∧yG .i64 3 s w.heap.size (some ⟨w,0,none⟩) n (yAl n (yJr b n x d fr))∧Below w w s) (fun _ _ u _=>n+1-(intOf u).toNat)
      case atStart=>exact⟨0,0,rfl,rfl,by omega,by omega,fun h=>by omega,.inl rfl,fun q _ h=>by omega,b9.out,c0.out⟩
      case round =>
       obtain⟨i,fr,rfl,rfl,E,a0,F,H,I,f,j⟩:=hrel;clear b9 c0;by_cases c1:i=n+1
       ·have d4:=F c1;have m:yG .i64 3 wr w.heap.size (some ⟨w,0,none⟩) n (yAl n (yOx b n x (d+1))):=by
         rw [←yAp (fun p l=>yOs b n x d fr p l (by omega))];exact f
        have a1:=lh m;have d5:=lh j;clear f m j I H F a0 d4;subst c1;have d6:(X:Int)-1=x:=(by have:=HX.out;omega);go_wp2;go_roundw
        case rel=>exact⟨x,d+1,by first | rfl | rw [d6],by omega,a1.out,d5.out⟩
        case measure=>simp [intOf];omega
       ·have J:=lh f;have z:=lh j;have a2:=I;have a3:fr=0∨lvF b (fr-1)<x+1:=by
         rcases H with h | h | h
         ·exact .inl h
         ·exact .inr h
         ·omega
        by_cases r:i<n
        ·have a4:yJr b n x d fr i=((oF (lvF b) n (x+1+1) d i:Nat):Int):=(by unfold yJr;rw [Zf (by omega)];rfl);obtain⟨k,t⟩:=nm (oF (lvF b) n (x+1+1) d i);have d7:k<n:=(by rw [←t];exact oF_lt d (x+1+1) i r);have c2:(x+1≤lvF b k)↔x+1≤lvF b i:=(by rw [←t];exact oF_lv d (x+1+1) i (by omega));rw [t] at a4;obtain⟨_,Q,_,_,R,_,_,_⟩:=f.at i (by rw [yBi];exact r);cases Q;rw [yFl _ _ _ r,a4] at R;obtain⟨G,o,rfl,hG,A⟩:=hd.at j k (by rw [yZ,HL.out];exact d7);rw [yAt] at A;obtain⟨K,a5⟩:=nm (b.getD k 0);rw [a5] at A;have L:(x+1≤K)↔x+1≤lvF b i:=by
          rw [←c2];unfold lvF;rw [a5];omega
         have d1:(0:Int)≤(i:Int):=(by omega);have d2:(i:Int)<(n:Int):=(by omega);have f2:(0:Int)≤(k:Int):=(by omega);have f3:(k:Int)<(n:Int):=(by omega);clear f j a4 t c2 a5 I H;by_cases a6:x+1≤K
         ·have d8:=L.1 a6;have d9:(X:Int)≤(K:Int):=(by have:=HX.out;omega);clear L;go_wp2;go_roundw
          case rel=>exact⟨i+1,fr,by go_num,rfl,by omega,by omega,fun h=>by omega,a3.imp id .inl,fun q v y h3=>by
           rcases JP q i with h | h
           ·exact a2 q v h h3
           ·obtain rfl:q=i:=(by omega);exact d8,J.out,z.out⟩
          case measure=>simp [intOf];omega
         ·have c3:lvF b i<x+1:=by
           rcases JP (lvF b i) (x+1) with h | h
           ·exact h
           ·exact qF (L.2 h) a6
          have HR:i=n∨lvF b i<x+1:=.inr c3;have c4:lvF b i<x+1∨i+1=n+1:=.inl c3;have d9:¬ (X:Int)≤(K:Int):=(by have:=HX.out;omega);have e0:(0:Int)≤(fr:Int):=(by omega);have e1:(fr:Int)≤(i:Int):=(by omega);have f4:(i:Int)≤(n:Int):=(by omega);clear L a6 F;by_cases a7:n=fr
          ·exact qF a7 (by omega)
          ·have D:=lh (turn_any w.heap.size fr (i-fr) (n-fr) w.heap.size n n (yJr b n x d fr) wr J.out (by omega) hn (by omega));rw [yAp (fun p l=>midG_turn b n x d fr i p a0 (by omega) l a3 (fun q v y=>a2 q v y (by omega)) HR)] at D;go_wp2_with (go_at_call 132;refine D.out.mono ?_;rintro e M ⟨rfl,m,a8⟩);have a9:Below w w M:=z.out.grown a8 z.out.size (fun k t=>by cases t;exact zT _);go_roundw
           case rel=>exact⟨i+1,i+1,by go_num,by go_num,by omega,zT _,fun _=>by omega,.inr (by rw [Ze];exact c4),fun q v y=>by omega,m,a9⟩
           case measure=>simp [intOf];omega
        ·have B:i=n:=(by omega);have HR:i=n∨lvF b i<x+1:=.inl B;have c4:lvF b i<x+1∨i+1=n+1:=.inr (by omega);have e0:(0:Int)≤(fr:Int):=(by omega);have e1:(fr:Int)≤(n:Int):=(by omega);have e3:n=i:=B.symm;have e4:¬ (i:Int)<(n:Int):=(by omega);clear f j I H F r;subst e3;clear e4 B;by_cases a7:n=fr
         ·have m:=J.out;rw [yAp (fun p l=>show yJr b n x d fr p=yJr b n x d (n+1) p by rw [yOs b n x d fr p l (by omega),yOs b n x d (n+1) p l (by omega)])] at m;have a1:=lh m;clear m;subst a7;go_wp2_with (go_at_call 132;refine (turn_nil _ _ _).mono ?_;rintro e M ⟨rfl,e5⟩;subst e5);go_roundw
          case rel=>exact⟨n+1,n+1,by go_num,by go_num,by omega,zT _,fun _=>by omega,.inr (.inr (by omega)),fun q v y=>by omega,a1.out,z.out⟩
          case measure=>first | (simp [intOf];done) | (simp [intOf];omega)
         ·have D:=lh (turn_any w.heap.size fr (n-fr) (n-fr) w.heap.size n n (yJr b n x d fr) wr J.out (by omega) hn (by omega));rw [yAp (fun p l=>midG_turn b n x d fr n p a0 (by omega) l a3 (fun q v y=>a2 q v y (by omega)) HR)] at D;go_wp2_with (go_at_call 132;refine D.out.mono ?_;rintro e M ⟨rfl,m,a8⟩);have a9:Below w w M:=z.out.grown a8 z.out.size (fun k t=>by cases t;exact zT _);go_roundw
          case rel=>exact⟨n+1,n+1,by go_num,by go_num,by omega,zT _,fun _=>by omega,.inr (.inr (by omega)),fun q v y=>by omega,m,a9⟩
          case measure=>first | (simp [intOf];done) | (simp [intOf];omega)
end
section
def yJ8:List Int→ByteArray
 | []=>⟨#[]⟩
 | r::t=>Utf8.encode r++yJ8 t
theorem yNt:∀(l:List Int) (a:ByteArray),l.foldl (fun r n=>r++Utf8.encode n) a=a++yJ8 l
 | [],a=>by
   apply qq;simp [yJ8]
 | r::t,a=>by rw [List.foldl_cons,yNt t,yJ8,ByteArray.append_assoc]
theorem yHc (l:List Int):runesBytes l=yJ8 l:=by
 unfold runesBytes;rw [yNt];apply qq;simp [ByteArray.empty,ByteArray.emptyWithCapacity];rfl
def yJp (s:ByteArray):Nat→Nat→Bool
 | 0,_=>false
 | f+1,i=>if i<s.size then (decide (((Utf8.decode s i).1:Int)=65533)&&decide ((Utf8.decode s i).2=1))||yJp s f (i+(Utf8.decode s i).2) else false
def badI (s:ByteArray):Bool:=yJp s s.size 0
theorem badF_fuel (s:ByteArray):∀(f g i:Nat),s.size≤i+f→s.size≤i+g→yJp s f i=yJp s g i
 | 0,0,i,hf,hg=>rfl
 | 0,g+1,i,hf,hg=>by rw [yJp,yJp,Zf (by omega)]
 | f+1,0,i,hf,hg=>by rw [yJp,yJp,Zf (by omega)]
 | f+1,g+1,i,hf,hg=>by
   rw [yJp,yJp];split
   ·rename_i h;have:=Lib.decode_width_pos s i h;rw [badF_fuel s f g _ (by omega) (by omega)]
   ·rfl
structure Pc where
 a:Nat
 size:Nat
 c0:Nat
 c1:Nat
 level:Nat
 became:ByteArray
 shown:ByteArray
 wide:Int
 e0:Int
 e1:Int
instance:Inhabited Pc:=⟨⟨0,0,0,0,0,⟨#[]⟩,⟨#[]⟩,0,0,0⟩⟩
def pc0 (a size c0 c1:Nat):Pc:=⟨a,size,c0,c1,0,⟨#[]⟩,⟨#[]⟩,0,0,0⟩
def findF:List (Nat × ByteArray)→Nat→List Pc
 | [],_=>[]
 | p::t,n=>pc0 p.1 p.2.size n (n+(yE p.2).length)::findF t (n+(yE p.2).length)
def yN8 (s:ByteArray) (ra:Int):Nat:=min ra.toNat s.size
def rowB (s:ByteArray) (ra rl:Int):Nat:=yN8 s ra+min rl.toNat (s.size-yN8 s ra)
def ym (s:ByteArray) (ra:Int):Nat:=upB s (yN8 s ra)
def yk (s:ByteArray) (ra rl:Int):Nat:=upB s (rowB s ra rl)
def yAo (s:ByteArray) (fr tt:Nat):List Pc:=findF (inPs s fr tt) 0
def yNh (s:ByteArray) (want:Int) (fr m:Nat):List Nat :=
 (rowI (yE s) (yAx (yE s) want).1 (yAx (yE s) want).2.toNat (yE (s.extract 0 fr)).length ((yE (s.extract 0 fr)).length+m:Nat)).getD []
def yEu (L:List Pc):Nat:=(L.getLastD default).c1
def yF5 (own:List Nat) (p:Pc):Pc:={ p with level:=own.getD p.c0 0 }
def yFv (s:ByteArray) (want:Int) (raw:Bool) (fr:Nat) (L:List Pc):List Pc:=if raw=true then L else L.map (yF5 (yNh s want fr (yEu L)))
def yJx (s:ByteArray) (want:Int) (raw:Bool):Nat:=if raw=true then 0 else (yAx (yE s) want).2.toNat
def yHa (text:ByteArray) (own:List Int) (odd:Bool):ByteArray:=if badI text=true then text else if odd=true then yJ8 (mirrorI (yH own 0)::own.tail) else yJ8 own
def yC2 (s:ByteArray) (rs:List Int) (p:Pc):Pc:={ p with became:=yHa (s.extract p.a (p.a+p.size)) ((rs.drop p.c0).take (p.c1-p.c0)) (decide (p.level % 2=1)) }
def yMt (s:ByteArray) (p:Pc):Bool:=yKg (s.extract p.a s.size)
def yHt (s:ByteArray) (L:List Pc):Nat→Nat
 | 0=>0
 | t+1=>if yMt s (L.getD t default)=true then yHt s L t else t+1
def yGl (rw tab:Int) (wideA raw:Bool):List Pc→Nat→Int→Int→List Pc × Int
 | [],_,x,_=>([],x)
 | p::t,i,x,tail =>
   if 0≤(if tail≤(i:Int)∧rw<x+(yx p.became x tab wideA raw).2 then -1 else tail) then
    ({p with shown:=(yx p.became x tab wideA raw).1,wide:=(yx p.became x tab wideA raw).2 }::(yGl rw tab wideA raw t (i+1) (x+(yx p.became x tab wideA raw).2) (if tail≤(i:Int)∧rw<x+(yx p.became x tab wideA raw).2 then -1 else tail)).1,
      (yGl rw tab wideA raw t (i+1) (x+(yx p.became x tab wideA raw).2) (if tail≤(i:Int)∧rw<x+(yx p.became x tab wideA raw).2 then -1 else tail)).2)
   else (p::(yGl rw tab wideA raw t (i+1) x (-1)).1,(yGl rw tab wideA raw t (i+1) x (-1)).2)
def yDo:List Int→Int→List Pc→List Pc
 | [],_,L=>L
 | i::t,x,L=>yDo t (x+(L.getD i.toNat default).wide) (L.set i.toNat { L.getD i.toNat default with e0:=x,e1:=x+(L.getD i.toNat default).wide })
structure LaidR where
 l:List Pc
 seen:List Int
 fr:Nat
 tt:Nat
 base:Nat
 wide:Int
end
end Go.Proofs.YtncplikdjcmoeaaGreatDoor
