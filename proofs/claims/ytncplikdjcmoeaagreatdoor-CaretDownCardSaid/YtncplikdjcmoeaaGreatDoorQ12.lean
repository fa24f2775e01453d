/- Lemmas, part 12: no further condition than each states. -/
import Derived.Test.YtncplikdjcmoeaaGreatDoorQ11
namespace Go.Proofs.YtncplikdjcmoeaaGreatDoor
set_option linter.unusedVariables false
set_option linter.unusedSimpArgs false
set_option maxRecDepth 100000
set_option maxHeartbeats 4000000
section
open Go.RowKit Go.Proofs Go.Shelf
attribute [local go_sem] qV
def yDs (W:World) (b:Nat) (R:LaidR):Prop :=
 ∃(la:Option Addr) (lcap:Nat) (va:Option Addr) (vc:Nat),LdB W b (.slice la R.l.length lcap) (.slice va R.seen.length vc) R.fr R.tt R.base R.wide ∧
   yN pcE 98 W (b+1) (.slice la R.l.length lcap) R.l∧Rd .i64 W va R.seen
theorem yDs.below {W W':World} {b:Nat} {R:LaidR} (h:yDs W b R) (a:Below W W W'):yDs W' b R:=by
 obtain⟨d,e,f,g,c,i,j⟩:=h;exact⟨d,e,f,g,c.below a c.lt,i.keep a,j.below a⟩
theorem own_low {α:Type} {E:Enc α} {e:Nat} {W W':World} {base m:Nat} {v:Value} {l:List α} (h:yN E e W base v l) (b:∀g,v.ownBlock=some g→g<m) (c:Below m W W'):yN E e W' base v l:=by
 refine⟨h.1,?_⟩;rcases h.2 with a | ⟨g,cap,d,a,f,i,j⟩
 ·exact .inl a
 ·exact .inr ⟨g,cap,d,a,f,(c.block g (b g (by rw [a];rfl))).trans i,j⟩
structure LoS (w:World) (b:Nat) (lv sv:Value) (fr tt bs:Nat) (wide:Int) (M:List Pc) (ob:Nat) (oa:Option Addr) (oc:Nat) (os:List Int) (W:World):Prop where
 ch:ChS w b lv sv fr tt bs wide M W
 out:yG .u8 5 W ob oa oc os
 sz:ob≤W.heap.size
section
variable {w W W':World} {b:Nat} {lv sv:Value} {fr tt bs:Nat} {wide:Int} {M:List Pc} {ob:Nat} {oa:Option Addr} {oc:Nat} {os:List Int}
theorem LoS.drew (h:LoS w b lv sv fr tt bs wide M ob oa oc os W):LoS w b lv sv fr tt bs wide M ob oa oc os W.drew:=⟨h.ch.drew,h.out,h.sz⟩
theorem LoS.drewN (h:LoS w b lv sv fr tt bs wide M ob oa oc os W) (n:Nat):LoS w b lv sv fr tt bs wide M ob oa oc os (W.drewN n):=⟨⟨h.ch.ld,h.ch.own,yI h.ch.bel n⟩,h.out,h.sz⟩
theorem LoS.below (h:LoS w b lv sv fr tt bs wide M ob oa oc os W) (a:Below W W W'):LoS w b lv sv fr tt bs wide M ob oa oc os W':=⟨h.ch.below a,h.out.keep a,zY h.sz a.size⟩
end
theorem LoS.set {w W:World} {b G cap:Nat} {sv:Value} {fr tt bs:Nat} {wide:Int} {M:List Pc} {ob:Nat} {oa:Option Addr} {oc:Nat} {os:List Int} {n:Nat} (h:LoS w b (.slice (some ⟨G,0,none⟩) n cap) sv fr tt bs wide M ob oa oc os W) (e:M.length=n) (k:G<ob) (i:Nat) (p:Pc) (c:M[i]? = some p) (x:ByteArray) (y:Int) :
 LoS w b (.slice (some ⟨G,0,none⟩) n cap) sv fr tt bs wide (M.set i { p with shown:=x,wide:=y }) ob oa oc os ((W.setCell ⟨G,i*10+6,none⟩ (.string x)).setCell ⟨G,i*10+7,none⟩ (.int .i64 y)):=by
 subst e;have f:=(zG.1 c).1;have l:=ZW h.ch.own G rfl;have j:=yN.set (cap:=cap) h.ch.own i p { p with shown:=x } c 6 (.string x) (by decide) rfl;have d:=yN.set (cap:=cap) j i { p with shown:=x } { p with shown:=x,wide:=y } (by rw [ZP];simp [f]) 7 (.int .i64 y) (by decide) rfl;rw [JJ,ZQ] at d;refine⟨⟨yA (yA h.ch.ld (by omega)) (by omega),d,?_⟩,?_,by have:=h.sz;simp;omega⟩
 ·exact (h.ch.bel.setCell (p:=⟨G,i*10+6,none⟩) (show b≤G by omega) _).setCell (p:=⟨G,i*10+7,none⟩) (show b≤G by omega) _
 ·exact yp (yp h.out (fun g a=>by have:=(ZW h.out g a).1;omega)) (fun g a=>by have:=(ZW h.out g a).1;omega)
theorem LoS.setx {w W:World} {b:Nat} {lv sv:Value} {fr tt bs:Nat} {wide:Int} {M:List Pc} {ob:Nat} {oa:Option Addr} {oc:Nat} {os:List Int} (h:LoS w b lv sv fr tt bs wide M ob oa oc os W) (c:b<ob) (y:Int) :
 LoS w b lv sv fr tt bs y M ob oa oc os (W.setCell ⟨b,5,none⟩ (.int .i64 y)) :=
 ⟨⟨h.ch.ld.set5 y,h.ch.own.other (fun g a=>by have:=(ZW h.ch.own g a).1;omega),bl_set h.ch.bel _ _⟩,yp h.out (fun g a=>by have:=(ZW h.out g a).1;omega),by have:=h.sz;simp;omega⟩
theorem ChS.setE {w W:World} {b G cap:Nat} {sv:Value} {fr tt bs:Nat} {wide:Int} {M:List Pc} {n:Nat} (h:ChS w b (.slice (some ⟨G,0,none⟩) n cap) sv fr tt bs wide M W) (d:M.length=n) (i:Nat) (p:Pc) (a:M[i]? = some p) (x y:Int) :
 ChS w b (.slice (some ⟨G,0,none⟩) n cap) sv fr tt bs wide (M.set i { p with e0:=x,e1:=y }) ((W.setCell ⟨G,i*10+8,none⟩ (.int .i64 x)).setCell ⟨G,i*10+8+1,none⟩ (.int .i64 y)):=by
 subst d;have e:=(zG.1 a).1;have g:=ZW h.own G rfl;have f:=yN.set (cap:=cap) h.own i p { p with e0:=x } a 8 (.int .i64 x) (by decide) rfl;have c:=yN.set (cap:=cap) f i { p with e0:=x } { p with e0:=x,e1:=y } (by rw [ZP];simp [e]) 9 (.int .i64 y) (by decide) rfl;rw [JJ,ZQ] at c;refine⟨yA (yA h.ld (by omega)) (by omega),c,?_⟩;exact (h.bel.setCell (p:=⟨G,i*10+8,none⟩) (show b≤G by omega) _).setCell (p:=⟨G,i*10+8+1,none⟩) (show b≤G by omega) _
theorem yIo (w:World) (a b c:Obj):(((w.alloc a).alloc b).alloc c).heap[w.heap.size]? = some a∧(((w.alloc a).alloc b).alloc c).heap[w.heap.size+1]? = some b∧(((w.alloc a).alloc b).alloc c).heap[w.heap.size+2]? = some c ∧
 Below w w (((w.alloc a).alloc b).alloc c)∧(((w.alloc a).alloc b).alloc c).heap.size=w.heap.size+3:=by
 obtain⟨g,h,i⟩:=yCm w a b;have d:=(Zc ((w.alloc a).alloc b).heap.size ((w.alloc a).alloc b)).alloc (zT _) c;have e:((w.alloc a).alloc b).heap.size=w.heap.size+2:=by rw [zM,zM]
 refine⟨(d.block _ (by omega)).trans g,(d.block _ (by omega)).trans h,?_,i.trans (d.mono (by omega)),by rw [zM,e]⟩;have f:=zL ((w.alloc a).alloc b) c;rw [e] at f;exact f
theorem yQ8 (s:ByteArray) (R:s.size≤2097152) (H J c3 C fin D v:Int) (F z m:Bool) (w:World) (hT:T8 w) (hD:DB w) (k9:∀p∈lay2 s v z m H J,p.level<256) :
 Calls Tryz.prog 46 #[s,yDq H J c3 C fin,yEq D v F z m] w fun e w'=>∃b,e=.returned (.pointer (some ⟨b,0,none⟩)) ∧
  yDs w' b (layI s D v F z m H J C)∧w.heap.size≤b∧Below w w w':=by
 obtain⟨l5,l6,t2,e9,l7⟩:=yIh s H J;have l8:=lay2_get s R v z m H J;obtain⟨N,hN⟩:=nm (layI s D v F z m H J C);have t3:Tryz.lays197_ren.g 3<w.heap.size:=yD (hT.1 0 (by omega));have t4:Tryz.lays197_ren.g 4<w.heap.size:=yD (hT.2 0 (by omega)).1;rw [hN];obtain⟨F0,c4⟩:=nm (yAo s (ym s H) (yk s H J));obtain⟨fr,b6⟩:=nm (ym s H);obtain⟨tt,b7⟩:=nm (yk s H J);have f0:=fun b sv base wide W=>rFind_any s R H J c3 C fin b sv base wide W;rw [c4,b6,b7] at f0 e9;rw [c4,b6] at l7;rw [c4] at t2;rw [b6,b7] at l5;rw [b7] at l6;go_enter Tryz.func46,Tryz.ntmps46;unfold yDq;go_upto_region 2 with fail;obtain⟨h0,U,h2,c5,d3⟩:=yIo w (.cells #[H,J,.int .u8 c3,C,.int .i8 fin] 24) (.cells #[D,F,.int .i8 v,z,m] 26) (.cells #[.slice none 0 0,.slice none 0 0,.int .i64 0,.int .i64 0,.int .u8 0,.int .i64 0] 95);generalize ((w.alloc _).alloc _).alloc _=W1 at h0 U h2 c5 d3 ⊢;obtain⟨B,hB⟩:=nm (w.heap.size);rw [hB] at h0 U h2 d3 t3 t4 ⊢;rw [show B+1+1=B+2 from rfl];have f2:=hT.below rfl c5;have l9:DB W1:=hD.below c5;have m0:LdB W1 (B+2) (.slice none 0 0) (.slice none 0 0) 0 0 0 0:=h2;have b8:5<B:=by have:=yD hD;omega
 have HX:Hid (∀W,Below (B+2) W1 W→T8 W∧DB W∧W.heap[B]? = some (.cells #[H,J,.int .u8 c3,C,.int .i8 fin] 24 (0,0))∧W.heap[B+1]? = some (.cells #[D,F,.int .i8 v,z,m] 26 (0,0))) :=
  lh fun W hb=>⟨T8.keep f2 (by omega) (by omega) hb,yB hb (by show 5<B+2;omega) l9,(hb.block _ (by omega)).trans h0,(hb.block _ (by omega)).trans U⟩
 have f3:=lh (f0 (B+2) (.slice none 0 0) 0 0 W1 f2 (by omega) (by omega) m0);obtain⟨b0,b1,b2,b3,b4⟩:=qc5 h0;clear h0 U h2 hT hD f2 l9 f0 m0;have t5:=lh c5;have f4:=lh l8;have g0:=lh e9;have m1:=lh k9;clear c5 l8 e9 k9;unfold yDq at f3;go_upto_region 3 with (go_at_call 83;refine f3.out.mono ?_;rintro e w2 ⟨rfl,lv,m2,g4,g5⟩);clear b0 b1 b2 b3 b4 f3;rw [d3,show B+3=B+2+1 from rfl] at g4;obtain⟨t6,t7,t8,m3⟩:=HX.out w2 g5;obtain⟨L1,c6⟩:=nm (yFv s v m fr F0);have d4:=lh (rLev_any s R D v F z m (B+2) lv (.slice none 0 0) fr tt 0 F0 w2 m2 g4 (by omega) (by omega) (fun i p y=>(g0.out i p y).2.2.2.2) l7);rw [c6] at d4;have m4:∀(i:Nat) (p:Pc),L1[i]? = some p→p.c0<p.c1∧p.c1≤(yE (s.extract fr tt)).length∧p.a+p.size≤s.size∧p.level<256:=by
  intro i p y;have t9:L1.map (fun p=>(p.a,p.size,p.c0,p.c1))=F0.map (fun p=>(p.a,p.size,p.c0,p.c1)):=(by rw [←c6];exact yKc _ (fun _ _=>rfl) s v m fr F0);obtain⟨q,hq,e⟩:=yDz t9 (zS y);obtain⟨j,hj⟩:=qk.1 hq;obtain⟨g1,g2,g3,_,_⟩:=g0.out j q hj;simp only [Prod.mk.injEq] at e;refine⟨by omega,by omega,by omega,?_⟩;have hm:yC2 s (yQj s z fr tt) p∈lay2 s v z m H J:=by
   unfold lay2;rw [c4,b6,b7,c6];exact List.mem_map_of_mem (zS y)
  have u0:=m1.out _ hm;exact u0
 have u1:L1.length≤2097152:=by
  have:=Zb List.length (yKc (fun p=>p.a) (fun _ _=>rfl) s v m fr F0);rw [c6,zK,zK] at this;omega
 obtain⟨bs,m5⟩:=nm (yJx s v m);rw [m5] at d4;have m6:=lh m4;obtain⟨b0,b1,b2,b3,b4⟩:=qc5 m3;have m7:=lh g5;clear m2 g4 g5 t6 t7 t8 m3 m4;go_upto_region 4 with (go_at_call 84;refine d4.out.mono ?_;rintro e w3 ⟨rfl,m8,m9,n0⟩);clear b0 b1 b2 b3 b4 d4;have g6:=m7.out.trans n0;obtain⟨n1,u2,u3,n2⟩:=HX.out w3 g6;have g7:=lh (rChg_any s R D v F z m (B+2) lv (.slice none 0 0) fr tt bs 0 L1 w3 m8 m9 n1 (by omega) (by omega) l5 l6 u1 m6.out);obtain⟨f,g8⟩:=nm (L1.map (yC2 s (yQj s z fr tt)));rw [g8] at g7;obtain⟨b0,b1,b2,b3,b4⟩:=qc5 n2;have n3:=lh g6;clear m8 m9 n0 g6 n1 u2 u3 n2 m7;go_upto_region 5 with (go_at_call 85;refine g7.out.mono ?_;rintro e w4 ⟨rfl,d5,d6,n4⟩);clear b0 b1 b2 b3 b4 g7;have n5:=n3.out.trans n4;have g9:lay2 s v z m H J=f:=by unfold lay2;rw [c4,b6,b7,c6,g8]
 have x9:f.length=L1.length:=by rw [←g8,zK]
 obtain⟨n,hn⟩:=nm (f.length);have y0:n≤2097152:=by omega
 rw [g9] at f4;obtain⟨O,l,u4,_,_⟩:=d6.slice;subst u4;rw [hn] at d5 d6;have n6:ChS W1 (B+2) (.slice O n l) (.slice none 0 0) fr tt bs 0 f w4:=⟨d5,d6,n5⟩;have h3:=lh n6;have k0:=d5.cells.1;clear d5 d6 n4 n5 n3 m6 g0 m1 n6;clear d3;obtain⟨tl,d7⟩:=nm (yHt s f n);go_upto_block 0 with fail;clear k0;go_cut [8] (fun u V=>u=.int .i64 tl∧ChS W1 (B+2) (.slice O n l) (.slice none 0 0) fr tt bs 0 f V)
 case first =>
  go_wp2;go_loopw [8] (fun u V=>∃t:Nat,t≤n∧u=.int .i64 t∧yHt s f t=tl∧ChS W1 (B+2) (.slice O n l) (.slice none 0 0) fr tt bs 0 f V) (fun u _=>(intOf u).toNat)
  case atStart=>exact⟨n,zT _,rfl,d7,h3.out⟩
  case round =>
   obtain⟨t,ht,rfl,n7,hS⟩:=hrel;have b9:=lh hS;have h4:=lh n7;clear hS n7 h3;cases t with
   | succ t =>
     obtain⟨p,y⟩:∃p,f[t]? = some p:=⟨_,zF (by omega)⟩;have n8:f.getD t default=p:=(by rw [zI,y];rfl);have n9:=rBlank_any s R (B+2) _ _ fr tt bs 0 f wr b9.out.ld b9.out.own (HX.out wr b9.out.bel).1 t p y (by have:=(f4.out t p y).1;omega);have d8:=lh n9;have y1:IntKind.i64.wrap (((t+1:Nat):Int)-1)=(t:Int):=(by rw [ZH];omega);have y2:(0:Int)<((t+1:Nat):Int):=(by omega);have o0:=lh n8;clear n9 y n8;cases hbk:yMt s p with
     | true =>
       rw [hbk] at d8;go_wp2_with (go_at_call 86;refine d8.out.mono ?_;rintro e I ⟨rfl,X⟩);go_roundw
       case rel=>exact⟨t,by omega,by go_num,by rw [←h4.out,tailF_out s f t (by rw [o0.out];exact hbk)],b9.out.below X⟩
       case measure=>simp [intOf]
     | false =>
       rw [hbk] at d8;go_wp2_with (go_at_call 86;refine d8.out.mono ?_;rintro e I ⟨rfl,X⟩);go_meet;exact⟨by rw [←h4.out,tailF_in s f t (by rw [o0.out];exact hbk)];rfl,b9.out.below X⟩
   | zero =>
     go_wp2;go_meet;exact⟨by rw [←h4.out];rfl,b9.out⟩
 case rest =>
  obtain⟨rfl,c7⟩:=hcut;obtain⟨i5,o1,o2,o3,X⟩:=info_parts (Tryz.info_u8);have k0:=c7.ld.cells.1;obtain⟨W8,o4,h5,o5⟩:=run_make_own (P:=Tryz.prog) wc wc.heap.size 118 5 i5 (.int .u8 0) 1 Tryz.underlying118 o1 o2 o3 .i64 .i64 n (by rw [X];omega) (by unfold maxLen;omega) (zT _);have h6:Below wc wc W8:=(Zc wc.heap.size wc).grown o5 (zT _) (fun k hk=>by cases hk);have a3:=lh (c7.below h6);have o6:=lh c7;have u5:=h6.size;obtain⟨A,h7⟩:=nm (wc.heap.size);rw [h7] at h5 o4;have o7:=lh h5;have y3:B+2<A:=(by have:=c7.ld.lt;omega);have u6:=a3.out.ld.cells.1;clear c7 h5 o5 h6 h3;go_upto_region 9 with fail;clear o4 k0;go_upto_block 2 with fail;clear u6;have o8:∀g,(Value.slice O n l).ownBlock=some g→g<A:=fun g hg=>by rw [←h7];exact (ZW o6.out.own g hg).2
  have h8:=lh o8;clear o8 o6;have o9:LoS W1 (B+2) (.slice O n l) (.slice none 0 0) fr tt bs 0 f A (some ⟨A,0,none⟩) n [] W8:=⟨a3.out,o7.out,by rw [←h7];exact u5⟩;have p0:=lh o9;clear o9 a3 o7;obtain⟨Z,hZ⟩:=nm (yGl C D F m f 0 0 tl);have y5:tl≤n:=(by rw [←d7];exact tailF_le s f n);have u7:=lh d7;clear d7;go_wp2;go_loopw [8,9,10,11,12,13,58] (fun u8 u9 _ _ _ _ u58 V=>∃(i:Nat) (done:List Pc) (t x:Int) (oa:Option Addr) (oc:Nat),i≤n∧done.length=i∧u58=.int .i64 i∧u8=.int .i64 t ∧ -1≤t∧t≤n∧u9=.slice oa i oc∧0≤x∧x≤19*i ∧
   LoS W1 (B+2) (.slice O n l) (.slice none 0 0) fr tt bs x (done++f.drop i) A oa oc (yg ((f.take i).map (·.level))) V ∧
   Z=(done++(yGl C D F m (f.drop i) i x t).1,(yGl C D F m (f.drop i) i x t).2)) (fun _ _ _ _ _ _ u58 _=>n-(intOf u58).toNat)
  case atStart=>exact⟨0,[],tl,0,_,_,zd _,rfl,rfl,rfl,by omega,by omega,rfl,by omega,by omega,p0.out,by rw [←hZ];rfl⟩
  case round =>
   obtain⟨i,done,t,x,oa,oc,hi,b8,rfl,rfl,y6,z0,rfl,z1,z2,hS,p1⟩:=hrel;have Y:=lh hS;have HZ:=lh p1;have v0:=lh hZ;clear hS p1 p0 hZ;by_cases d9:i<n
   ·obtain⟨p,y⟩:∃p,f[i]? = some p:=⟨_,zF (by omega)⟩;have c8:f.drop i=p::f.drop (i+1):=yAu y;have hM:(done++f.drop i)[i]? = some p:=(by rw [zr (by omega),b8,Zk,c8];rfl);have a1:(done++f.drop i).length=n:=(by rw [zJ,zy];omega);have h9:∀q,(done++f.drop i).set i q=(done++[q])++f.drop (i+1):=fun q=>by
     rw [qm _ _ (by omega),b8,Zk,c8,zi,zZ];rfl
    have i0:done++f.drop i=(done++[p])++f.drop (i+1):=(by rw [c8,zZ];rfl);obtain⟨M,p2⟩:=nm (done++f.drop i);rw [p2] at Y hM a1 h9 i0;have c9:yN pcE 98 wr (B+2+1) (.slice O M.length l) M:=(by rw [a1];exact Y.out.ch.own);obtain⟨G,eG,v1,v2,a6,d0⟩:=c9.at i p hM;subst eG;have p3:G<A:=h8.out G rfl;have y4:wr.cell? ⟨G,i*10+4,none⟩=some (.int .u8 p.level):=a6 4 _ rfl;have k0:=Y.out.ch.ld.cells.1;have z3:=f4.out i p y;have i1:yg ((f.take (i+1)).map (·.level))=yg ((f.take i).map (·.level))++[(p.level:Int)]:=(by rw [yE2 y,zW];unfold yg;rw [zW];rfl);obtain⟨os,i2⟩:=nm (yg ((f.take i).map (·.level)));have i3:os.length=i:=(by rw [←i2];unfold yg;rw [zK,zK,za];omega);rw [i2] at Y i1;have p4:=lh i1;have v3:=lh h9;have v4:=lh i0;have p5:=lh c8;have i4:=lh hM;have i6:M.length=n:=a1;have p6:A≤wr.heap.size:=Y.out.sz;have HO:=lh Y.out.out;clear a6 c9 i2 i1 h9 i0 c8 hM p2 y;go_upto_region 14 with (at_builtin;refine wpList_append_own _ rfl _ _ 118 rfl A 5 i5 (.int .u8 0) 1 1 Tryz.underlying118 o1 o2 o3 X rfl (by decide) _ i _ rfl (by have h:=HO.out.alloc (.cells #[.int .u8 p.level] 5);rw [i3] at h;exact h) ⟨wr,0,none⟩ 1 1 [.int .u8 p.level] rfl rfl (JV _ _ _) (by simp [Value.oneCell']) (by unfold maxLen;omega) (by omega) (by simp;omega) ?_;intro v' I ho hg _);replace hg:(wr.alloc (.cells #[.int .u8 p.level] 5)).grownBy I (Value.slice oa i oc).ownBlock:=hg;have i7:=ZW HO.out;rw [i3] at i7;have d1:Below A wr I:=((Zc A wr).alloc p6 _).grown hg (by simp;omega) (fun k hk=>(i7 k hk).1);have p7:A≤I.heap.size:=zY p6 d1.size;have hm:os.map (Value.int .u8)++[.int .u8 p.level]=(os++[(p.level:Int)]).map (Value.int .u8):=(by rw [zW];rfl);rw [hm] at ho;obtain⟨va,vc,v5,_,_⟩:=yP ho;subst v5;have a4:LoS W1 (B+2) (.slice (some ⟨G,0,none⟩) n l) (.slice none 0 0) fr tt bs x M A va vc (os++[(p.level:Int)]) I:=by
     refine⟨⟨Y.out.ch.ld.below d1 (by omega),own_low Y.out.ch.own h8.out d1,Y.out.ch.bel.trans (d1.mono (by omega))⟩,?_,p7⟩;unfold yG;rw [zJ,i3];exact ho
    have i9:Hid (∀W,LoS W1 (B+2) (.slice (some ⟨G,0,none⟩) n l) (.slice none 0 0) fr tt bs x M A va vc (os++[(p.level:Int)]) W→W.cell? ⟨G,i*10+5,none⟩=some (.string p.became)∧W.cell? ⟨B+2,5,none⟩=some (.int .i64 x)∧W.cell? ⟨B+1,0,none⟩=some (.int .i64 D)∧W.cell? ⟨B+1,1,none⟩=some (.bool F) ∧
     W.cell? ⟨B+1,2,none⟩=some (.int .i8 v)∧W.cell? ⟨B+1,3,none⟩=some (.bool z)∧W.cell? ⟨B+1,4,none⟩=some (.bool m)∧LoS W1 (B+2) (.slice (some ⟨G,0,none⟩) n l) (.slice none 0 0) fr tt bs x M A va vc (os++[(p.level:Int)]) W):=lh fun W h=>by
     have hr:yN pcE 98 W (B+2+1) (.slice (some ⟨G,0,none⟩) M.length l) M:=(by rw [i6];exact h.ch.own);obtain⟨G',eG,_,_,hc,_⟩:=hr.at i p i4.out;cases eG;have hk:=(HX.out W h.ch.bel).2.2.2;refine⟨hc 5 _ rfl,h.ch.ld.cells.2.2.2.2.2,?_,?_,?_,?_,?_,h⟩ <;> simp [World.cell?,hk]
    obtain⟨T,e2⟩:=nm (yx p.became x D F m);have p8:=yGj p.became x D F m;rw [e2] at p8;have p9:Hid (∀W,LoS W1 (B+2) (.slice (some ⟨G,0,none⟩) n l) (.slice none 0 0) fr tt bs x M A va vc (os++[(p.level:Int)]) W→Calls Tryz.prog 87 #[p.became,x,yEq D v F z m] W fun e w'=>e=.returned (.tuple #[.string T.1,.int .i64 T.2]) ∧
     LoS W1 (B+2) (.slice (some ⟨G,0,none⟩) n l) (.slice none 0 0) fr tt bs x M A va vc (os++[(p.level:Int)]) w'):=lh fun W h=>by
     have:=text_anyB p.became (by omega) x D v F z m W (HX.out W h.ch.bel).1 (HX.out W h.ch.bel).2.1;rw [e2] at this;exact this.mono fun e w' ⟨U,h2⟩=>⟨U,h.below h2⟩
    have q0:=lh e2;obtain⟨j5,j6,l0,l1,l2,l3,l4,v6⟩:=i9.out _ a4;clear e2 ho hg hm i7 d1 p7 HO a4 y4 k0 Y d0
    go_region_held3 (fun w'=>w'.cell? ⟨G,i*10+5,none⟩=some (.string p.became)∧w'.cell? ⟨B+2,5,none⟩=some (.int .i64 x)∧w'.cell? ⟨B+1,0,none⟩=some (.int .i64 D)∧w'.cell? ⟨B+1,1,none⟩=some (.bool F) ∧
     w'.cell? ⟨B+1,2,none⟩=some (.int .i8 v)∧w'.cell? ⟨B+1,3,none⟩=some (.bool z)∧w'.cell? ⟨B+1,4,none⟩=some (.bool m)∧LoS W1 (B+2) (.slice (some ⟨G,0,none⟩) n l) (.slice none 0 0) fr tt bs x M A va vc (os++[(p.level:Int)]) w')
     ((refine i9.out _ ?_;(repeat (first | assumption | refine LoS.drew ?_))))
     ((go_at_call 87;refine (p9.out _ (by (repeat (first | assumption | refine LoS.drew ?_)))).mono ?_;rintro e w6 ⟨rfl,a7⟩))
    have a5:=lh a7;clear j5 j6 l0 l1 l2 l3 l4 v6 p9 a7 i9;obtain⟨T1,L⟩:=T;dsimp only at p8 ⊢;obtain⟨t',j0⟩:=nm (tlF C i x L t);go_upto_region 15 with fail;go_cut [100] (fun c V=>c=.bool (decide (t≤(i:Int)∧C<x+L))∧LoS W1 (B+2) (.slice (some ⟨G,0,none⟩) n l) (.slice none 0 0) fr tt bs x M A va vc (os++[(p.level:Int)]) V)
    case first =>
     have r3:w6.cell? ⟨B,3,none⟩=some (.int .i64 C):=(by simp [World.cell?,(HX.out w6 a5.out.ch.bel).2.2.1]);have k5:=a5.out.ch.ld.cells.2.2.2.2.2;have v7:IntKind.i64.wrap (x+L)=x+L:=(by rw [ZH];omega);by_cases U:t≤(i:Int)
     ·have v8:decide (t≤(i:Int))=true:=zQ U;have d2:decide (t≤(i:Int)∧C<x+L)=decide (C<x+L):=(by simp [U]);have j1:=lh d2;clear d2;go_quiet (fail);go_wp2;go_meet;exact⟨by rw [j1.out],a5.out.drewN _⟩
     ·have v8:decide (t≤(i:Int))=false:=zP U;have d2:decide (t≤(i:Int)∧C<x+L)=false:=(by simp [U]);have j1:=lh d2;clear d2;go_quiet (fail);go_wp2;go_meet;exact⟨by rw [j1.out],a5.out.drewN _⟩
    case rest =>
     obtain⟨rfl,q2⟩:=hcut;have j2:=lh q2;obtain⟨d,hd⟩:∃d,decide (t≤(i:Int)∧C<x+L)=d:=⟨_,rfl⟩;rw [hd];have q3:t'=if d=true then -1 else t:=by rw [←j0,←hd];unfold tlF;simp
     have e3:=lh q3;have q4:=lh j0;clear q2 a5 hd q3 j0;go_upto_if 100 with fail;go_cut [8] (fun u V=>u=.int .i64 t'∧LoS W1 (B+2) (.slice (some ⟨G,0,none⟩) n l) (.slice none 0 0) fr tt bs x M A va vc (os++[(p.level:Int)]) V)
     case first =>
      cases d with
      | true =>
        go_wp2;go_meet;exact⟨by rw [e3.out];rfl,j2.out⟩
      | false =>
        go_wp2;go_meet;exact⟨by rw [e3.out];rfl,j2.out⟩
     case rest =>
      obtain⟨rfl,q5⟩:=hcut;have a3:=lh q5;have z4:t' = -1∨t'=t:=(by rw [e3.out];cases d <;> simp);have z5:IntKind.i64.wrap ((i:Int)+1)=(i:Int)+1:=(by rw [ZH];omega);have v7:IntKind.i64.wrap (x+L)=x+L:=(by rw [ZH];omega);clear q5 e3 j2;by_cases h0:0≤t'
      ·have q8:yN pcE 98 wc (B+2+1) (.slice (some ⟨G,0,none⟩) M.length l) M:=(by rw [i6];exact a3.out.ch.own);obtain⟨G',eG,_,_,j3,j4⟩:=q8.at i p i4.out;cases eG;have q6:wc.cell? ⟨G,i*10+6,none⟩=some (.string p.shown):=j3 6 _ rfl;have q7:wc.cell? ⟨G,i*10+7,none⟩=some (.int .i64 p.wide):=j3 7 _ rfl;have f6:=j4 (i*10+6);have f7:=j4 (i*10+7);have a2:=a3.out.set i6 p3 i p i4.out T1 L;rw [v3.out] at a2;have a8:=lh a2;clear q8 j4 j3 a2;go_upto_region 19 with fail;clear f6 f7 q6 q7 a3;generalize (wc.setCell _ _).setCell _ _=W9 at a8 ⊢;have k5:=a8.out.ch.ld.cells.2.2.2.2.2;have f5:=a8.out.ch.ld.frz 5;have v9:=lh (a8.out.setx (by omega) (x+L));clear a8;go_wp2;go_roundw
       case rel=>exact⟨i+1,done++[{ p with shown:=T1,wide:=L }],t',x+L,va,vc,by omega,by rw [zJ,b8];rfl,by go_num,rfl,by omega,by omega,rfl,by omega,by omega,by rw [p4.out];exact v9.out,by
        rw [HZ.out,p5.out,yDu,q0.out];dsimp only;rw [q4.out,Zg h0,zZ];rfl⟩
       case measure=>simp [intOf];omega
      ·go_wp2;go_roundw
       case rel=>exact⟨i+1,done++[p],t',x,va,vc,by omega,by rw [zJ,b8];rfl,by go_num,rfl,by omega,by omega,rfl,by omega,by omega,by rw [p4.out,←v4.out];exact a3.out,by
        obtain rfl:t' = -1:=(by omega);rw [HZ.out,p5.out,yDu,q0.out];dsimp only;rw [q4.out,Zf h0,zZ];rfl⟩
       case measure=>simp [intOf];omega
   ·obtain rfl:i=n:=(by omega);have j7:f.drop i=[]:=ql (by omega);have q9:f.take i=f:=qU (by omega);have hz:=HZ.out;have R:=Y.out;rw [j7,yGl] at hz;dsimp only at hz;rw [zq] at hz;rw [j7,q9,zq] at R;obtain⟨ls,e4⟩:=nm (f.map (·.level));have e5:ls.length=i:=(by rw [←e4,zK];exact hn);rw [e4] at R;have w0:=(ZW R.ch.own);have r0:=Order_any oa ls i oc wr e5 R.out.rd (by omega);have r1:=lh r0;have a9:=lh R;have w1:=lh e4;have w7:=lh hz;have z6:(yg ls).length=i:=(by unfold yg;rw [zK];exact e5);clear d9 j7 q9 hz R r0 Y HZ e4 w0;obtain⟨a0,e6⟩:=nm (orderI ls);have j8:a0.length=i:=(by rw [←e6,yJj];exact e5);have r2:∀k,k<i→∃j:Nat,j<i∧a0[k]? = some (j:Int):=fun k hk=>by rw [←e6];exact seen_get ls i k e5 hk
    have w8:=lh r2;have r4:=lh e6;obtain⟨Q,r5⟩:=nm (wr.heap.size);have z7:A≤Q:=(by have:=a9.out.sz;omega);have r6:Hid (∀I,Below wr wr I→I.frozen? ⟨B+2,1,none⟩=false∧I.cell? ⟨B+2,1,none⟩=some (.slice none 0 0)):=lh fun I h=>⟨(a9.out.ch.ld.below h a9.out.ch.ld.lt).frz 1,(a9.out.ch.ld.below h a9.out.ch.ld.lt).cells.2.1⟩;clear r2 e6;go_upto_region 22 with (go_at_call 88;refine r1.out.mono ?_;rintro e I ⟨rfl,e7,X⟩;obtain⟨f1,q1⟩:=r6.out I X);rw [r4.out] at e7;rw [r5] at e7 X;have r7:=e7.rd;have a4:ChS W1 (B+2) (.slice O i l) (.slice none 0 0) fr tt bs x done I:=a9.out.ch.below (r5▸X);have a7:ChS W1 (B+2) (.slice O i l) (.slice (some ⟨Q,0,none⟩) i i) fr tt bs x done (I.setCell ⟨B+2,1,none⟩ (.slice (some ⟨Q,0,none⟩) i i)) :=
     ⟨a4.ld.set1 _,a4.own.other (fun g hg=>by have:=(ZW a4.own g hg).1;omega),bl_set a4.bel _ _⟩
    have j9:Rd .i64 (I.setCell ⟨B+2,1,none⟩ (.slice (some ⟨Q,0,none⟩) i i)) (some ⟨Q,0,none⟩) a0:=yO1 r7 (by omega);have w9:Q≤(I.setCell ⟨B+2,1,none⟩ (.slice (some ⟨Q,0,none⟩) i i)).heap.size:=(by have:=X.size;simp;omega);clear f1 q1 e7 r7 X a4 r6 a9 r1;generalize I.setCell _ _=W6 at a7 j9 w9 ⊢;have k1:=a7.ld.cells.2.1;have a5:=lh a7;have r8:=lh j9;clear a7 j9;have k2:lay3 s D v F z m H J C=(done,x):=by
     unfold lay3;rw [g9,hn,u7.out,v0.out,w7.out]
    have r9:∀p∈done,0≤p.wide∧p.wide≤19:=fun p y=>lay3_bd s D v F z m H J C p (by rw [k2];exact y);have s0:=lh r9;have x0:=lh k2;obtain⟨E,hE⟩:=nm (yDo a0 0 done);have HE:=lh hE;clear r9 k2 hE;go_upto_block 4 with fail;clear k1;go_wp2;go_loopw [14,16,130] (fun u14 _ u130 V=>∃(k:Nat) (r:Int) (M:List Pc),k≤i∧u130=.int .i64 k∧u14=.int .i64 r∧0≤r∧r≤19*k∧M.length=i∧(∀p∈M,0≤p.wide∧p.wide≤19)∧yDo (a0.drop k) r M=E ∧
     ChS W1 (B+2) (.slice O i l) (.slice (some ⟨Q,0,none⟩) i i) fr tt bs x M V∧Rd .i64 V (some ⟨Q,0,none⟩) a0) (fun _ _ u130 _=>i-(intOf u130).toNat)
    case atStart=>exact⟨0,0,done,zd _,rfl,rfl,by omega,by omega,b8,s0.out,by rw [ZZ];exact HE.out,a5.out,r8.out⟩
    case round =>
     obtain⟨k,r,M,hk,rfl,rfl,z8,z9,a1,s1,c2,hS,hR⟩:=hrel;have b5:=lh hS;have e8:=lh hR;have s2:=lh s1;have s3:=lh c2;clear hS hR s1 c2 a5 r8 s0;by_cases d9:k<i
     ·obtain⟨j,hj,k3⟩:=w8.out k d9;obtain⟨p,y⟩:∃p,M[j]? = some p:=⟨_,zF (by omega)⟩;have x1:=s2.out p (zS y);have s4:a0.drop k=(j:Int)::a0.drop (k+1):=yAu k3;have c9:yN pcE 98 wr (B+2+1) (.slice O M.length l) M:=(by rw [a1];exact b5.out.own);obtain⟨G,eG,v1,v2,a6,d0⟩:=c9.at j p y;subst eG;have p3:=h8.out G rfl;have ys:wr.cell? ⟨Q,k,none⟩=some (.int .i64 (j:Int)):=by
       rcases e8.out with h | ⟨g,o,e,U,h2⟩
       ·rw [h] at j8;simp at j8;omega
       ·cases e;have:=h2 k (by omega);rw [Za] at this;rw [this];unfold yH;rw [zI,k3];rfl
      have k0:=b5.out.ld.cells.1;have y7:wr.cell? ⟨G,j*10+7,none⟩=some (.int .i64 p.wide):=a6 7 _ rfl;have y8:wr.cell? ⟨G,j*10+8,none⟩=some (.int .i64 p.e0):=a6 8 _ rfl;have y9:wr.cell? ⟨G,j*10+9,none⟩=some (.int .i64 p.e1):=a6 9 _ rfl;have f8:=d0 (j*10+8);have f9:=d0 (j*10+9);have hwx:IntKind.i64.wrap (r+p.wide)=r+p.wide:=(by rw [ZH];omega);have x2:=lh s4;have HP:=lh y;clear a6 d0 c9 s4 y k3;go_upto_region 26 with fail;obtain⟨S,k4,k6⟩:∃S:World→Prop,(∀W:World,W.cell? ⟨B+2,0,none⟩=some (.slice (some ⟨G,0,none⟩) i l)→W.cell? ⟨G,j*10+7,none⟩=some (.int .i64 p.wide)→S W)∧(∀W:World,S W→W.cell? ⟨B+2,0,none⟩=some (.slice (some ⟨G,0,none⟩) i l)∧W.cell? ⟨G,j*10+7,none⟩=some (.int .i64 p.wide)) :=
       ⟨fun W=>W.cell? ⟨B+2,0,none⟩=some (.slice (some ⟨G,0,none⟩) i l)∧W.cell? ⟨G,j*10+7,none⟩=some (.int .i64 p.wide),fun _ h h'=>⟨h,h'⟩,fun _ h=>h⟩
      have k7:=lh k4;have x3:Nonempty (WIn S):=⟨⟨_,k4 _ k0 y7⟩⟩;have x4:∀q:WIn S,q.w.cell? ⟨B+2,0,none⟩=some (.slice (some ⟨G,0,none⟩) i l):=fun q=>(k6 _ q.h).1;have x5:∀q:WIn S,q.w.cell? ⟨G,j*10+7,none⟩=some (.int .i64 p.wide):=fun q=>(k6 _ q.h).2;clear k4 k6;refine yEa S [19] (by kernel_rfl) (by kernel_rfl) (k7.out _ k0 y7) ?_;simp only [yHw,Zm,Zj,qp,ZZ]
      repeat (go_big_quiet_step (fail))
      refine Zt ?_;intro K hK;have s5:=lh hK;clear hK;go_wp2;have a2:=b5.out.setE a1 j p HP.out r (r+p.wide);have k8:Rd .i64 ((wr.setCell ⟨G,j*10+8,none⟩ (.int .i64 r)).setCell ⟨G,j*10+8+1,none⟩ (.int .i64 (r+p.wide))) (some ⟨Q,0,none⟩) a0:=yO1 (yO1 e8.out (by omega)) (by omega);clear k0 y7 y8 y9 f8 f9 ys x4 x5 x3 b5 e8;generalize (wr.setCell _ _).setCell _ _=W9 at a2 k8 ⊢;have x6:j<M.length:=(by omega);have s6:(M.set j { p with e0:=r,e1:=r+p.wide })[j]? = some { p with e0:=r,e1:=r+p.wide }:=(by rw [ZP];simp [x6]);have s7:yN pcE 98 W9 (B+2+1) (.slice (some ⟨G,0,none⟩) (M.set j { p with e0:=r,e1:=r+p.wide }).length l) (M.set j { p with e0:=r,e1:=r+p.wide }):=(by rw [ZQ,a1];exact a2.own);obtain⟨G',eG,_,_,s8,_⟩:=s7.at j _ s6;cases eG;have k0:W9.cell? ⟨B+2,0,none⟩=some (.slice (some ⟨G,0,none⟩) i l):=a2.ld.cells.1;have y7:W9.cell? ⟨G,j*10+7,none⟩=some (.int .i64 p.wide):=s8 7 _ rfl;have a8:=lh a2;have x7:=lh k8;clear s6 s7 s8 a2 k8;refine s5.out _ _ (k7.out _ k0 y7) ?_;clear s5 k7;refine Zt (NoPanic.normal ?_);go_wp2;go_roundw
      case rel=>exact⟨k+1,r+p.wide,M.set j { p with e0:=r,e1:=r+p.wide },by omega,by go_num,rfl,by omega,by omega,by rw [ZQ];exact a1,fun q hq=>by
       rcases List.mem_or_eq_of_mem_set hq with h | rfl
       ·exact s2.out q h
       ·exact x1,by rw [←s3.out,x2.out,edgeF_step j _ r M p HP.out],a8.out.drew,x7.out⟩
      case measure=>simp [intOf];omega
     ·obtain rfl:k=i:=(by omega);have c2:=s3.out;rw [ql (by omega)] at c2;have s9:M=E:=c2;have t0:N=⟨M,a0,fr,tt,bs,x⟩:=by
       rw [←hN];unfold layI layL laySeen;rw [g9,w1.out,r4.out,x0.out,HE.out,b6,b7,m5,s9]
      have t1:yDs wr (B+2) N:=by
       rw [t0];refine⟨O,l,some ⟨Q,0,none⟩,k,?_,?_,e8.out⟩
       ·show LdB wr (B+2) (.slice O M.length l) (.slice (some ⟨Q,0,none⟩) a0.length k) fr tt bs x;rw [a1,j8];exact b5.out.ld
       ·show yN pcE 98 wr (B+2+1) (.slice O M.length l) M;rw [a1];exact b5.out.own
      have x8:=lh t1;clear c2 s9 t0 t1 d9;go_wp2;go_ret;exact⟨B+2,rfl,x8.out,by omega,t5.out.trans (b5.out.bel.mono (by omega))⟩
theorem yLh {w:World} {b:Nat} {d:Option Addr} {e:Nat} {L:List Pc} (f:yN pcE 98 w (b+1) (.slice d L.length e) L) (i:Nat) (p:Pc) (g:L[i]? = some p) :
 ∃G,d=some ⟨G,0,none⟩∧G<w.heap.size∧w.cell? ⟨G,i*10,none⟩=some (.int .i64 p.a)∧w.cell? ⟨G,i*10+1,none⟩=some (.int .i64 p.size)∧w.cell? ⟨G,i*10+2,none⟩=some (.int .i64 p.c0)∧w.cell? ⟨G,i*10+3,none⟩=some (.int .i64 p.c1) ∧
   w.cell? ⟨G,i*10+4,none⟩=some (.int .u8 p.level)∧w.cell? ⟨G,i*10+5,none⟩=some (.string p.became)∧w.cell? ⟨G,i*10+6,none⟩=some (.string p.shown)∧w.cell? ⟨G,i*10+7,none⟩=some (.int .i64 p.wide)∧w.cell? ⟨G,i*10+8,none⟩=some (.int .i64 p.e0)∧w.cell? ⟨G,i*10+9,none⟩=some (.int .i64 p.e1):=by
 obtain⟨G,h,k,j,c,_⟩:=f.at i p g;exact⟨G,h,j,c 0 _ rfl,c 1 _ rfl,c 2 _ rfl,c 3 _ rfl,c 4 _ rfl,c 5 _ rfl,c 6 _ rfl,c 7 _ rfl,c 8 _ rfl,c 9 _ rfl⟩
theorem rEdge_any (b:Nat) (R:LaidR) (i:Nat) (z:Bool) (w:World) (hL:yDs w b R) (hi:i≤R.l.length) (a9:R.base<256) (a4:∀p∈R.l,p.level<256) (hn:R.l.length≤2097152) :
 Calls Tryz.prog 52 #[.pointer (some ⟨b,0,none⟩),i,z] w fun e w'=>e=.returned (.int .i64 (yDe R i z))∧Below w w w':=by
 obtain⟨L,b5,fr,tt,t,x⟩:=R;obtain⟨la,a5,va,vc,u,c,h3⟩:=hL;dsimp only at u c h3 hi a9 a4 hn;obtain⟨V,hV⟩:=nm (yDe ⟨L,b5,fr,tt,t,x⟩ i z);rw [hV];have Z:=u.lt;have b0:V=if z=true∧i=0 then (if t % 2=1 then x else 0)
  else if z=true then (if oddB (L.getD (i-1) default)=true then (L.getD (i-1) default).e0 else (L.getD (i-1) default).e1)
  else if i=L.length then (if t % 2=1 then 0 else x)
  else (if oddB (L.getD i default)=true then (L.getD i default).e1 else (L.getD i default).e0):=by rw [←hV];rfl
 have o:=lh b0;have a0:bits .and .u8 (t:Int) 1=((t % 2:Nat):Int):=yFe t a9;obtain⟨n,a1⟩:=nm (L.length);rw [a1] at u hi hn;have H1:=lh u;have H2:=lh c;have b1:=lh a4;have A:=u.cells.1;have C:=u.cells.2.2.2.2.1;have d5:=u.cells.2.2.2.2.2;clear b0 hV u c h3 a4;go_enter Tryz.func52,Tryz.ntmps52;cases z with
 | true =>
   by_cases h0:i=0
   ·subst h0;go_upto_region 3 with fail;have d:=qal w (.cells #[.int .i64 0,x] 96);have f:=zL w (.cells #[.int .i64 0,x] 96);have g:=H1.out.below d Z;have k:=H2.out.keep d;generalize w.alloc _=W1 at d f g k ⊢;obtain⟨B,v⟩:=nm (w.heap.size);have q:=lh d;rw [v] at f ⊢;clear A C d5;obtain⟨e0,e1⟩:=qc2 f;have C:=g.cells.2.2.2.2.1;clear f d g k;rcases JH t with c | c;rw [c] at a0;have S:IntKind.u8.wrap (1-((0:Nat):Int))=1:=(by decide);have j:V=0:=by rw [o.out];simp [c]
    rotate_left
    rw [c] at a0;have S:IntKind.u8.wrap (1-((1:Nat):Int))=0:=(by decide);have j:V=x:=by rw [o.out];simp [c]
    rotate_left
    all_goals
     have r:=lh j;clear j o;go_wp2;go_ret;exact⟨yK (by rw [r.out]),q.out⟩
   ·go_upto_region 5 with fail;have d:=qal w (.cells #[.int .i64 0,x] 96);have f:=zL w (.cells #[.int .i64 0,x] 96);have g:=H1.out.below d Z;have k:=H2.out.keep d;generalize w.alloc _=W1 at d f g k ⊢;obtain⟨B,v⟩:=nm (w.heap.size);have q:=lh d;rw [v] at f ⊢;clear A C d5;obtain⟨p,s⟩:∃p,L[i-1]? = some p:=⟨_,zF (by omega)⟩;have T:L.getD (i-1) default=p:=(by rw [zI,s];rfl);have a2:=b1.out p (zS s);obtain⟨G,y,c2,D,E,F,H,I,J,K,M,N,O⟩:=yLh k (i-1) p s;subst y;have A:=g.cells.1;have c3:IntKind.i64.wrap ((i:Int)-1)=((i-1:Nat):Int):=(by rw [ZH];omega);have c4:((i-1:Nat):Int)<(n:Int):=(by omega);clear f d g k s;go_upto_region 6 with fail;have a6:=qal W1 (.cells #[p.a,p.size,p.c0,p.c1,.int .u8 p.level,p.became,p.shown,p.wide,p.e0,p.e1] 98);have Q:=zL W1 (.cells #[p.a,p.size,p.c0,p.c1,.int .u8 p.level,p.became,p.shown,p.wide,p.e0,p.e1] 98);generalize W1.alloc _=W2 at a6 Q ⊢;obtain⟨P,hP⟩:=nm (W1.heap.size);have b2:=lh (q.out.trans (a6.mono q.out.size));rw [hP] at Q ⊢;have U:=yOl p a2 W2;have j:V=if p.level % 2=1 then p.e0 else p.e1:=by
     rw [o.out,Zf (by simp [h0]),Zg rfl,T];unfold oddB;simp
    have b6:=lh Q;have b7:P<W2.heap.size:=(zH.1 Q).1;have r:=lh j;clear D E F H I J K M N O A a6 j o T;obtain⟨z0,z1,z2,z3,z4,z5,z6,z7,z8,z9⟩:=qc10 Q;have b8:Hid (∀W,Below W2 W2 W→W.cell? ⟨P,8,none⟩=some (.int .i64 p.e0)∧W.cell? ⟨P,9,none⟩=some (.int .i64 p.e1)):=lh fun W m=>by
     have:=(m.block P b7).trans b6.out;constructor <;> simp [World.cell?,this]
    clear Q;rcases JH p.level with c | c;rw [c] at U r;have X:=lh U;have Y:Hid (V=p.e1):=lh (by rw [r.out];simp);have S:IntKind.i64.wrap (1-((0:Nat):Int))=1:=by decide
    rotate_left
    rw [c] at U r;have X:=lh U;have Y:Hid (V=p.e0):=lh (by rw [r.out];simp);have S:IntKind.i64.wrap (1-((1:Nat):Int))=0:=by decide
    rotate_left
    all_goals
     clear U r;go_wp2_with (go_at_call 92;refine X.out.mono ?_;rintro e w3 ⟨rfl,a3⟩;obtain⟨c5,c6⟩:=b8.out w3 a3);go_ret;exact⟨yK (by rw [Y.out]),b2.out.trans (a3.mono b2.out.size)⟩
 | false =>
   by_cases a7:i=n
   ·go_upto_region 8 with fail;have d:=qal w (.cells #[.int .i64 0,x] 96);have f:=zL w (.cells #[.int .i64 0,x] 96);have g:=H1.out.below d Z;have k:=H2.out.keep d;generalize w.alloc _=W1 at d f g k ⊢;obtain⟨B,v⟩:=nm (w.heap.size);have q:=lh d;rw [v] at f ⊢;clear A C d5;obtain⟨e0,e1⟩:=qc2 f;have C:=g.cells.2.2.2.2.1;clear f d g k;rcases JH t with c | c;rw [c] at a0;have S:IntKind.u8.wrap (1-((0:Nat):Int))=1:=(by decide);have j:V=x:=by rw [o.out];simp [c,a7,a1]
    rotate_left
    rw [c] at a0;have S:IntKind.u8.wrap (1-((1:Nat):Int))=0:=(by decide);have j:V=0:=by rw [o.out];simp [c,a7,a1]
    rotate_left
    all_goals
     have r:=lh j;clear j o;go_wp2;go_ret;exact⟨yK (by rw [r.out]),q.out⟩
   ·go_upto_region 9 with fail;have d:=qal w (.cells #[.int .i64 0,x] 96);have f:=zL w (.cells #[.int .i64 0,x] 96);have g:=H1.out.below d Z;have k:=H2.out.keep d;generalize w.alloc _=W1 at d f g k ⊢;obtain⟨B,v⟩:=nm (w.heap.size);have q:=lh d;rw [v] at f ⊢;clear A C d5;obtain⟨p,s⟩:∃p,L[i]? = some p:=⟨_,zF (by omega)⟩;have T:L.getD i default=p:=(by rw [zI,s];rfl);have a2:=b1.out p (zS s);have b9:=g.lt;have a8:∀W,Below W1 W1 W→∃G,la=some ⟨G,0,none⟩∧W.cell? ⟨G,i*10,none⟩=some (.int .i64 p.a)∧W.cell? ⟨G,i*10+1,none⟩=some (.int .i64 p.size)∧W.cell? ⟨G,i*10+2,none⟩=some (.int .i64 p.c0)∧W.cell? ⟨G,i*10+3,none⟩=some (.int .i64 p.c1) ∧
     W.cell? ⟨G,i*10+4,none⟩=some (.int .u8 p.level)∧W.cell? ⟨G,i*10+5,none⟩=some (.string p.became)∧W.cell? ⟨G,i*10+6,none⟩=some (.string p.shown)∧W.cell? ⟨G,i*10+7,none⟩=some (.int .i64 p.wide)∧W.cell? ⟨G,i*10+8,none⟩=some (.int .i64 p.e0)∧W.cell? ⟨G,i*10+9,none⟩=some (.int .i64 p.e1) ∧
     W.cell? ⟨b,0,none⟩=some (.slice la n a5):=fun W m=>by
     obtain⟨G,y,_,D,E,F,H,I,J,K,M,N,O⟩:=yLh (k.keep m) i p s;exact⟨G,y,D,E,F,H,I,J,K,M,N,O,(g.below m b9).cells.1⟩
    obtain⟨G,y,_⟩:=a8 W1 (Zc _ _);subst y;have b3:Hid (∀W,Below W1 W1 W→W.cell? ⟨G,i*10,none⟩=some (.int .i64 p.a)∧W.cell? ⟨G,i*10+1,none⟩=some (.int .i64 p.size)∧W.cell? ⟨G,i*10+2,none⟩=some (.int .i64 p.c0)∧W.cell? ⟨G,i*10+3,none⟩=some (.int .i64 p.c1) ∧
     W.cell? ⟨G,i*10+4,none⟩=some (.int .u8 p.level)∧W.cell? ⟨G,i*10+5,none⟩=some (.string p.became)∧W.cell? ⟨G,i*10+6,none⟩=some (.string p.shown)∧W.cell? ⟨G,i*10+7,none⟩=some (.int .i64 p.wide)∧W.cell? ⟨G,i*10+8,none⟩=some (.int .i64 p.e0)∧W.cell? ⟨G,i*10+9,none⟩=some (.int .i64 p.e1) ∧
     W.cell? ⟨b,0,none⟩=some (.slice (some ⟨G,0,none⟩) n a5)∧Below W1 W1 W):=lh fun W m=>by
     obtain⟨G',y,D,E,F,H,I,J,K,M,N,O,b4⟩:=a8 W m;cases y;exact⟨D,E,F,H,I,J,K,M,N,O,b4,m⟩
    obtain⟨D,E,F,H,I,J,K,M,N,O,b4,c7⟩:=b3.out W1 (Zc _ _);have c8:(i:Int)<(n:Int):=(by omega);have j:V=if p.level % 2=1 then p.e1 else p.e0:=by
     rw [o.out,Zf (by simp),Zf (by simp),Zf (by rw [a1];exact a7),T];unfold oddB;simp
    clear f d g k s a8 T o;rcases JH p.level with c | c;have X:Hid (∀W,Below W1 W1 W→Calls Tryz.prog 92 #[.agg #[p.a,p.size,p.c0,p.c1,.int .u8 p.level,p.became,p.shown,p.wide,p.e0,p.e1]] W fun e w'=>e=.returned (.int .i64 (0:Int))∧Below W1 W1 w'):=lh fun W m=>(yOl p a2 W).mono fun e w' ⟨h,hb'⟩=>⟨by rw [h,c];rfl,m.trans (hb'.mono m.size)⟩;have Y:Hid (V=p.e0):=lh (by rw [j,c];simp)
    rotate_left
    have X:Hid (∀W,Below W1 W1 W→Calls Tryz.prog 92 #[.agg #[p.a,p.size,p.c0,p.c1,.int .u8 p.level,p.became,p.shown,p.wide,p.e0,p.e1]] W fun e w'=>e=.returned (.int .i64 (1:Int))∧Below W1 W1 w'):=lh fun W m=>(yOl p a2 W).mono fun e w' ⟨h,hb'⟩=>⟨by rw [h,c];rfl,m.trans (hb'.mono m.size)⟩;have Y:Hid (V=p.e1):=lh (by rw [j,c];simp)
    rotate_left
    all_goals
     clear j
     go_region_held3 (fun w'=>w'.cell? ⟨G,i*10,none⟩=some (.int .i64 p.a)∧w'.cell? ⟨G,i*10+1,none⟩=some (.int .i64 p.size)∧w'.cell? ⟨G,i*10+2,none⟩=some (.int .i64 p.c0)∧w'.cell? ⟨G,i*10+3,none⟩=some (.int .i64 p.c1) ∧
      w'.cell? ⟨G,i*10+4,none⟩=some (.int .u8 p.level)∧w'.cell? ⟨G,i*10+5,none⟩=some (.string p.became)∧w'.cell? ⟨G,i*10+6,none⟩=some (.string p.shown)∧w'.cell? ⟨G,i*10+7,none⟩=some (.int .i64 p.wide)∧w'.cell? ⟨G,i*10+8,none⟩=some (.int .i64 p.e0)∧w'.cell? ⟨G,i*10+9,none⟩=some (.int .i64 p.e1) ∧
      w'.cell? ⟨b,0,none⟩=some (.slice (some ⟨G,0,none⟩) n a5)∧Below W1 W1 w')
      ((refine b3.out _ ?_;(repeat (first | assumption | refine Below.drew ?_))))
      ((go_at_call 92;refine (X.out _ (by (repeat (first | assumption | refine Below.drew ?_)))).mono ?_;rintro e w3 ⟨rfl,a3⟩))
     go_wp2;go_ret;exact⟨yK (by rw [Y.out]),q.out.trans (a3.mono q.out.size)⟩
theorem yDs.drewN {W:World} {b:Nat} {R:LaidR} (h:yDs W b R) (n:Nat):yDs (W.drewN n) b R:=by
 obtain⟨a,c,d,e,f,g,i⟩:=h;exact⟨a,c,d,e,f,g,i⟩
theorem yO6 (s:ByteArray) (a:Int) (b:Bool):yJx s a b<256:=by
 unfold yJx;split
 ·decide
 ·unfold yAx;rcases yGg a (((yE s).map yDa).length+1) ((yE s).map yDa) with h | h <;> (unfold yIm;dsimp only;omega)
theorem layL_lv (s:ByteArray) (g a:Int) (i b c:Bool) (d f rw:Int) (h:∀p∈lay2 s a b c d f,p.level<256):∀p∈layL s g a i b c d f rw,p.level<256:=fun p j=>by
 obtain⟨q,k,e⟩:=yDz (yIc (fun p=>p.level) (fun _ _ _=>rfl) (fun _ _ _=>rfl) s g a i b c d f rw) j;rw [←e];exact h q k
theorem yH7 (s:ByteArray) (a b:Int) (c d e:Bool) (ra rl rw:Int) (f:s.size≤2097152):(layL s a b c d e ra rl rw).length≤2097152:=by
 rw [yLn,lay2_len];have:=(yIh s ra rl).2.2.1;omega
theorem left_in (c:Int) (L:List Pc) (k:Nat) (p:Pc) (h:L[k]? = some p) (b:((p.a+p.size:Nat):Int)≤c):leftF c (L.drop k)=leftF c (L.drop (k+1))+1:=by
 rw [yAu h,leftF,Zg b]
theorem left_out (c:Int) (L:List Pc) (k:Nat) (p:Pc) (h:L[k]? = some p) (b:¬ ((p.a+p.size:Nat):Int)≤c):leftF c (L.drop k)=0:=by
 rw [yAu h,leftF,Zf b]
theorem lay_sizes (s:ByteArray) (k:s.size≤2097152) (h b:Int) (i c d:Bool) (f g rw:Int):∀p∈layL s h b i c d f g rw,p.a+p.size≤2097152:=fun p l=>by
 obtain⟨q,m,e⟩:=yDz (yIc (fun p=>(p.a,p.size)) (fun _ _ _=>rfl) (fun _ _ _=>rfl) s h b i c d f g rw) l;obtain⟨j,n⟩:=qk.1 m;have:=(lay2_get s k b c d f g j q n).1;simp only [Prod.mk.injEq] at e;omega
theorem Place_any (s:ByteArray) (M:s.size≤2097152) (g i A m fin o d:Int) (q j f:Bool) (c N:Int) (r:Bool) (w:World) (hT:T8 w) (hD:DB w) (O:∀p∈lay2 s d j f g i,p.level<256) :
 Calls Tryz.prog 15 #[s,yDq g i A m fin,yEq o d q j f,.agg #[c,r,N]] w fun e w' =>
  e=.returned (.int .i64 (yEk (layI s o d q j f g i m) c r))∧Below w w w':=by
 have a5:=yO6 s d f;have P:=layL_lv s o d q j f g i m O;have a6:=yH7 s o d q j f g i m M;have Q:=lay_sizes s M o d q j f g i m;have S:=lh (fun (W:World) (h:Below w w W)=>yQ8 s M g i A m fin o d q j f W (hT.below rfl h) (hD.below h) O);obtain⟨R,C⟩:=nm (layI s o d q j f g i m);obtain⟨L,T,fr,U,D,x⟩:=R;have eL:layL s o d q j f g i m=L:=Zb LaidR.l C;have eb:yJx s d f=D:=Zb LaidR.base C;rw [C] at S ⊢;rw [eL] at P a6 Q;rw [eb] at a5;have c1:=lh P;have c2:=lh Q;clear C eL eb P Q O hT hD;go_enter Tryz.func15,Tryz.ntmps15;unfold yDq;go_upto_region 1 with fail;obtain⟨h0,E,F,H,a7⟩:=yIo w (.cells #[g,i,.int .u8 A,m,.int .i8 fin] 24) (.cells #[o,q,.int .i8 d,j,f] 26) (.cells #[c,r,N] 33);generalize ((w.alloc _).alloc _).alloc _=W1 at h0 E F H a7 ⊢;obtain⟨B,hB⟩:=nm (w.heap.size);have c3:=lh H;rw [hB] at h0 E F a7 ⊢;rw [show B+1+1=B+2 from rfl];obtain⟨b0,b1,b2,b3,b4⟩:=qc5 h0;obtain⟨l0,l1,l2,l3,l4⟩:=qc5 E;have a8:=lh F;have V:=lh (S.out W1 H);clear h0 E F H S;unfold yDq at V;go_upto_region 2 with (go_at_call 46;refine V.out.mono ?_;rintro e t ⟨b,rfl,a9,d2,X⟩);have Y:=(X.block (B+2) (by omega)).trans a8.out;have b5:=lh (c3.out.trans (X.mono (by omega)));have HX:=lh Y;have Z:=lh a9;have b6:B+2<t.heap.size:=(zH.1 Y).1;clear b0 b1 b2 b3 b4 l0 l1 l2 l3 l4 Y a9 X V a8;go_upto_block 0 with fail;obtain⟨n,hn⟩:=nm (L.length);go_cut [10] (fun u v=>u=.int .i64 (leftF c L:Nat)∧yDs v b ⟨L,T,fr,U,D,x⟩∧Below t t v)
 case first =>
  go_wp2;go_loopw [10] (fun u v=>∃k:Nat,k≤n∧u=.int .i64 k∧leftF c L=k+leftF c (L.drop k)∧yDs v b ⟨L,T,fr,U,D,x⟩∧Below t t v) (fun u _=>n-(intOf u).toNat)
  case atStart=>exact⟨0,zd _,rfl,by rw [ZZ];omega,Z.out,Zc _ _⟩
  case round =>
   obtain⟨k,hk,rfl,a0,c4,I⟩:=hrel;obtain⟨la,c5,va,vc,y,z,J⟩:=c4;dsimp only at y z J;have d0:=y.cells.1;rw [hn] at d0;have a1:=lh I;have d3:wr.cell? ⟨B+2,0,none⟩=some (.int .i64 c):=(by simp [World.cell?,(I.block (B+2) b6).trans HX.out]);have a2:Hid (yDs wr b ⟨L,T,fr,U,D,x⟩):=lh ⟨la,c5,va,vc,y,z,J⟩;have a3:=lh a0;by_cases d4:k<n
   ·obtain⟨p,K⟩:∃p,L[k]? = some p:=⟨_,zF (by omega)⟩;obtain⟨G,eG,d5,y0,y1,_⟩:=yLh z k p K;subst eG;have d6:=c2.out p (zS K);have d7:IntKind.i64.wrap ((p.a:Int)+(p.size:Int))=(p.a:Int)+(p.size:Int):=(by rw [ZH];omega);have d8:IntKind.i64.wrap ((k:Int)+1)=(k:Int)+1:=(by rw [ZH];omega);have c6:decide ((k:Int)<(n:Int))=true:=zQ (by omega);have HP:=lh K;clear y z J I a0 K Z;by_cases b7:(p.a:Int)+(p.size:Int)≤c
    ·have c7:decide ((p.a:Int)+(p.size:Int)≤c)=true:=zQ b7;go_upto_region 3 with fail;go_quiet (fail);go_wp2;go_roundw
     case rel=>exact⟨k+1,by omega,by go_num,by rw [a3.out,left_in c L k p HP.out (by omega)];omega,a2.out.drewN _,yI a1.out _⟩
     case measure=>simp [intOf];omega
    ·have c7:decide ((p.a:Int)+(p.size:Int)≤c)=false:=zP b7;go_upto_region 3 with fail;go_quiet (fail);go_wp2;go_meet;exact⟨by rw [a3.out,left_out c L k p HP.out (by omega)];rfl,a2.out.drewN _,yI a1.out _⟩
   ·obtain rfl:k=n:=(by omega);have c6:decide ((k:Int)<(k:Int))=false:=(by simp);have c8:leftF c L=k:=(by rw [a3.out,ql (by omega)];rfl);clear y z J I a0 Z;go_upto_region 3 with fail;go_quiet (fail);go_wp2;go_meet;exact⟨by rw [c8],a2.out.drewN _,yI a1.out _⟩
 case rest =>
  obtain⟨rfl,b8,a4⟩:=hcut;have b9:=(a4.block (B+2) b6).trans HX.out;obtain⟨-,d9⟩:=qc2 b9;have c9:=lh (rEdge_any b _ (leftF c L) r wc b8 (leftF_le c L) a5 c1.out a6);have c0:=lh (b5.out.trans (a4.mono b5.out.size));clear b8 a4 b9;go_wp2_with (go_at_call 52;refine c9.out.mono ?_;rintro e w3 ⟨rfl,d1⟩);go_ret;exact⟨rfl,c0.out.trans (d1.mono c0.out.size)⟩
theorem wsum_le {L:List Pc} (h:∀p∈L,0≤p.wide∧p.wide≤19):0≤yHd L∧yHd L≤19*L.length:=by
 induction L with
 | nil=>exact⟨Zr _,by simp [yHd]⟩
 | cons p L ih =>
   have b:=h p (zR ..);have c:=ih (fun q a=>h q (zc _ a));rw [yHd,zb];omega
theorem yBq (w:World) (a b:Obj):((w.alloc a).alloc b).heap[w.heap.size]? = some a∧((w.alloc a).alloc b).heap[w.heap.size+1]? = some b∧Below w w ((w.alloc a).alloc b)∧((w.alloc a).alloc b).heap.size=w.heap.size+2:=by
 obtain⟨c,d,e⟩:=yCm w a b;exact⟨c,d,e,by rw [zM,zM]⟩
end
section
structure St where
 a:Nat
 back:Bool
 x:Int
deriving DecidableEq
instance:Inhabited St:=⟨⟨0,false,0⟩⟩
def yHx (W:LaidR) (cut:Bool) (p:Nat):Bool:=decide (p<W.tt)||!cut||decide (W.fr=W.tt)
def hasB (W:LaidR) (cut:Bool) (i p:Nat):Bool:=decide (W.fr<p)&&(decide (yDe W i false≠yDe W i true)||(cut&&decide (p=W.tt)))
def yA7 (W:LaidR) (cut:Bool) (i p:Nat):List St :=
 (if yHx W cut p=true then [⟨p,false,yDe W i false⟩] else [])++(if hasB W cut i p=true then [⟨p,true,yDe W i true⟩] else [])
def stopsF (W:LaidR) (cut:Bool):List Pc→Nat→List St
 | [],i=>yA7 W cut i W.tt
 | p::t,i=>yA7 W cut i p.a++stopsF W cut t (i+1)
def yDm (fin:Int):Bool:=decide (fin=2)||decide (fin=3)
def yJw (l:List St) (j:Nat):List St:=(l.set (j+1) (l.getD j default)).set j (l.getD (j+1) default)
def insJ (l:List St):Nat→List St
 | 0=>l
 | j+1=>if (l.getD (j+1) default).x<(l.getD j default).x then insJ (yJw l j) j else l
def yJu:Nat→Nat→List St→List St
 | 0,_,l=>l
 | m+1,i,l=>yJu m (i+1) (insJ l i)
def rawS (W:LaidR) (fin:Int):List St:=stopsF W (yDm fin) W.l 0
def stopsI (W:LaidR) (fin:Int):List St:=yJu ((rawS W fin).length-1) 1 (rawS W fin)
def yEz (a b:Int):Int:=max (a-b) (b-a)
def yFy (x:Int):List St→St→St
 | [],b=>b
 | s::t,b=>yFy x t (if yEz s.x x<yEz b.x x then s else b)
def yHo (W:LaidR) (fin x:Int):St:=yFy (min (max x 0) W.wide) (stopsI W fin) ((stopsI W fin).getD 0 default)
theorem swapL_len (l:List St) (j:Nat):(yJw l j).length=l.length:=by unfold yJw;rw [ZQ,ZQ]
theorem insJ_len:∀(j:Nat) (l:List St),(insJ l j).length=l.length
 | 0,_=>rfl
 | j+1,l=>by
   rw [insJ];split
   ·rw [insJ_len j,swapL_len]
   ·rfl
theorem yMe:∀(m i:Nat) (l:List St),(yJu m i l).length=l.length
 | 0,_,_=>rfl
 | m+1,i,l=>by rw [yJu,yMe m,insJ_len]
theorem yJ7 (W:LaidR) (a:Bool) (i p:Nat):(yA7 W a i p).length≤2:=by
 unfold yA7;rw [zJ];split <;> split <;> simp
theorem yPk (W:LaidR) (b:Bool):∀(L:List Pc) (i:Nat),(stopsF W b L i).length≤2*L.length+2
 | [],i=>by rw [stopsF];exact yJ7 W b i W.tt
 | p::t,i=>by
   rw [stopsF,zJ,zb];have c:=yJ7 W b i p.a;have d:=yPk W b t (i+1);omega
end
section
open Go.RowKit Go.Proofs
section
variable {P:Program} {ops:Array Oper} {Q:Exit→Act→World→Prop} {S:World→Prop}
theorem yHi (h g:List Nat) {n fuel:Nat} {l:Array Bool} {a:Act} {w:World} (v:∀c a f w,Q (.panic c) a w→Q (.panic c) f w)
 (q:(Region.noSelect ops&&yH6 .any ops h l&&decide (Region.ready .any ops (yMr h l)=g)&&!g.isEmpty&&g.all (yIu ops)&&decide (n=(yS ops h).length+(fuel+1)))=true) (x:S w)
 (H:wpQuiet P ops (fun w'=>∃p:WIn S,w'=p.w) (fun f=>∀k∈g,∀K:Act→World→Prop,(∀r j,S j→wpAnyH P .any ops Q S fuel ((yMr h l).setIfInBounds k true) r j→K r j)→wpList P ops (Exit.then K Q) (yS ops [k]) f w) (yS ops h) a) :
 wpAnyH P .any ops Q S n l a w:=by
 simp only [ZU,ZX,qR,Zs] at q;obtain⟨⟨⟨⟨⟨h0,s⟩,m⟩,i⟩,y⟩,rfl⟩:=q;refine yDw h0 v x (yS ops h) h l a (yE3 h l s) s H (fun f z=>?_);refine wpAnyH_all m (fun e=>by rw [e] at i;cases i) (fun k t=>?_);have d:=y k t;cases hok:ops[k]? with
 | none=>unfold yIu at d;rw [hok] at d;cases d
 | some o =>
   have u:Region.wanted o (yielded ops f.tmps)=true:=by
    unfold yIu at d;rw [hok] at d;unfold Region.wanted;have:o.guard=none:=(by simpa using d);rw [this]
   have A:yS ops [k]=[o]:=(by unfold yS;simp [hok]);have b:=z k t (fun a w=>S w∧wpAnyH P .any ops Q S fuel ((yMr h l).setIfInBounds k true) a w) (fun a w m i=>⟨m,i⟩);rw [A] at b;unfold wpOp;rw [hok];dsimp only;rw [Zg u];unfold wpList at b;rw [Zg u] at b;rcases b with b | b
   ·exact .inl (yDd b)
   ·exact .inr b
theorem yAi (z:List Nat) {n:Nat} {l:Array Bool} {a:Act} {w:World} (f:∀c a b w,Q (.panic c) a w→Q (.panic c) b w)
 (d:(Region.noSelect ops&&yH6 .any ops z l&&(Region.ready .any ops (yMr z l)).isEmpty&&decide (n=(yS ops z).length))=true) (g:S w)
 (H:wpQuiet P ops (fun w'=>∃p:WIn S,w'=p.w) (fun b=>Q .normal b w) (yS ops z) a):wpAnyH P .any ops Q S n l a w:=by
 simp only [ZU,ZX] at d;obtain⟨⟨⟨h0,e⟩,h⟩,rfl⟩:=d;have:=yDw (fuel:=0) h0 f g (yS ops z) z l a (yE3 z l e) e H (fun b i=>wpAnyH_done (by simpa using h) i 0);simpa using this
theorem yn {id:Nat} {a:Act} {w:World} {l:List Oper} (S:World→Prop) (b:P.follows .mixedOrders=true) (h:wpAnyH P .any l.toArray (NoPanic Q) S l.length (Array.replicate l.length false) a w.drew) :
 (Code.region id l.toArray true).wp P Q a w:=wp_region_noPanic (wp_region_any b (wpAny_of_held _ _ _ _ (by simpa using h)))
theorem yC {Q:Exit→Act→World→Prop}:∀c a b w,NoPanic Q (.panic c) a w→NoPanic Q (.panic c) b w:=fun _ _ _ _ h=>h
end
section
variable {P:Program} {Q:Exit→Act→World→Prop}
theorem wpIn_region_T {id n r:Nat} {a:Act} {w:World} {l:List Oper} (S:World→Prop) (b:P.follows .mixedOrders=true) (c:yG7 l=true) (d:∀a w,¬ Q .outgrown a w)
 (h:wpAnyH P .any l.toArray Q S l.length (Array.replicate l.length false) a w.drew):(Code.region id l.toArray true).wpIn (Fence.wide.inRound r) n P Q a w :=
 wpIn_region_any b (yC9 (yCn c) d _ _ _ _ (wpAny_of_held _ _ _ _ (by simpa using h)))
theorem yPg {id n r:Nat} {a:Act} {w:World} {l:List Oper} (S:World→Prop) (e:P.follows .mixedOrders=true) (b:(yG7 l&&(decide (0<l.length)&&yKp .any l.toArray (l.length-1)))=true) (f:∀a w,¬ Q .outgrown a w)
 (h:wpAnyH P .any (yAz l).toArray (Exit.then (fun a w=>wpList P l.toArray Q (yDx l) a w) Q) S l.length (Array.replicate l.length false) a w.drew):(Code.region id l.toArray true).wpIn (Fence.wide.inRound r) n P Q a w:=by
 rw [ZU] at b;obtain⟨g,b⟩:=b;simp only [ZU,ZX] at b;obtain⟨h0,d⟩:=b;obtain⟨c,o,i,j,k⟩:=yFj l (by intro hl;rw [hl] at h0;cases h0);rw [j,k] at h;subst i;have m:(c++[o]).length-1=c.length:=by simp
 rw [m] at d;refine wpIn_region_any e (yC9 (yCn g) f _ _ _ _ (?_:wpAny P .any (c++[o]).toArray Q _ _ a w.drew));refine yKx c o d _ _ a _ (by simp) (by simp) (yHe _) (wpAny_of_held (S:=S) _ _ _ _ ?_);simpa using h
theorem yLe {id:Nat} {a:Act} {w:World} {l:List Oper} (S:World→Prop) (e:P.follows .mixedOrders=true) (c:(decide (0<l.length)&&yKp .any l.toArray (l.length-1))=true)
 (h:wpAnyH P .any (yAz l).toArray (Exit.then (fun a w=>wpList P l.toArray (NoPanic Q) (yDx l) a w) (NoPanic Q)) S l.length (Array.replicate l.length false) a w.drew):(Code.region id l.toArray true).wp P Q a w:=by
 simp only [ZU,ZX] at c;obtain⟨h0,d⟩:=c;obtain⟨b,o,f,g,i⟩:=yFj l (by intro hl;rw [hl] at h0;cases h0);rw [g,i] at h;subst f;have j:(b++[o]).length-1=b.length:=by simp
 rw [j] at d;refine wp_region_noPanic (wp_region_any e (?_:wpAny P .any (b++[o]).toArray (NoPanic Q) _ _ a w.drew));refine yKx b o d _ _ a _ (by simp) (by simp) (yHe _) (wpAny_of_held (S:=S) _ _ _ _ ?_);simpa using h
theorem yKl {ops:Array Oper} (b:∀a w,¬ Q .outgrown a w) {n r:Nat}:∀(l:List Oper) (a:Act) (w:World),(∀o∈l,∀c,o.op≠.defer c)→wpList P ops Q l a w→wpListIn (Fence.wide.inRound r) n P ops Q l a w
 | [],a,w,_,h=>h
 | o::t,a,w,hd,h=>by
   unfold wpList at h;unfold wpListIn;split
   ·rename_i hw;rw [Zg hw] at h;rcases h with h | ⟨_,f,w',g⟩
    ·exact yKr (hd o (zR ..)) (Oper.wp_mono (fun a w i=>yKl b t a w (fun d e=>hd d (zc _ e)) i) h)
    ·exact qF g (b f w')
   ·rename_i hw;rw [Zf hw] at h;exact⟨fun _ _=>trivial,yKl b t _ w (fun d e=>hd d (zc _ e)) h⟩
theorem yc {id n r:Nat} {a:Act} {w:World} {l:List Oper} (b:yG7 l=true) (c:∀a w,¬ Q .outgrown a w) (h:wpList P l.toArray Q l a w):(Code.region id l.toArray false).wpIn (Fence.wide.inRound r) n P Q a w :=
 wpIn_region_lit (yKl c l a w (fun o d=>by
  obtain⟨i,e⟩:=qk.1 d;exact yCn b i o (by rw [zC];exact e)) h)
theorem yOo {K:Act→World→Prop} (d:∀c a b w,Q (.panic c) a w→Q (.panic c) b w):∀c a b w,(Exit.then K Q) (.panic c) a w→(Exit.then K Q) (.panic c) b w:=fun c a b w h=>d c a b w h
end
section
variable {P:Program} {ops:Array Oper} {Q:Exit→Act→World→Prop} {S:World→Prop}
theorem yAq (h:List Nat) (k:Nat) (L:List Oper) {n fuel:Nat} {l:Array Bool} {a:Act} {w:World} {o:Oper} (u:∀c a d w,Q (.panic c) a w→Q (.panic c) d w)
 (r:(Region.noSelect ops&&yH6 .any ops h l&&decide (Region.ready .any ops (yMr h l)=[k])&&!([k]:List Nat).isEmpty&&([k]:List Nat).all (fun k=>ops[k]?.isSome)&&decide (n=(yS ops h).length+(fuel+1)))=true) (v:S w)
 (H:wpQuiet P ops (fun w'=>∃p:WIn S,w'=p.w) (fun d=>∀K:Act→World→Prop,Hid (∀s j,S j→wpAnyH P .any ops Q S fuel ((yMr h l).setIfInBounds k true) s j→K s j)→wpList P ops (Exit.then K Q) [o] d w) L a)
 (x:yS ops h=L:=by simp only [yS,zD,zE,zC,zB,zA];rfl) (f:yS ops [k]=[o]:=by simp only [yS,zD,zE,zC,zB,zA];rfl) :
 wpAnyH P .any ops Q S n l a w:=by
 subst x;simp only [ZU,ZX,qR,Zs] at r;obtain⟨⟨⟨⟨⟨h0,t⟩,m⟩,g⟩,B⟩,rfl⟩:=r;refine yDw h0 u v (yS ops h) h l a (yE3 h l t) t H (fun d y=>?_);refine wpAnyH_all m (fun e=>by rw [e] at g;cases g) (fun q z=>?_);obtain rfl:=zO.1 z;cases hok:ops[q]? with
 | none=>rw [yS,zD,hok] at f;cases f
 | some p =>
   have A:yS ops [q]=[p]:=(by unfold yS;simp [hok]);obtain rfl:p=o:=(by rw [A] at f;injection f);have b:=y (fun a w=>S w∧wpAnyH P .any ops Q S fuel ((yMr h l).setIfInBounds q true) a w) (lh (fun a w m g=>⟨m,g⟩));unfold wpOp;rw [hok];dsimp only;unfold wpList at b;by_cases i:Region.wanted p (yielded ops d.tmps)=true
   ·rw [Zg i];rw [Zg i] at b;rcases b with b | b
    ·exact .inl (yDd b)
    ·exact .inr b
   ·rw [Zf i];rw [Zf i] at b;exact b
theorem yj (k:Nat) {n fuel:Nat} {l:Array Bool} {a:Act} {w:World} {o:Oper} (e:∀c a f w,Q (.panic c) a w→Q (.panic c) f w)
 (g:(Region.noSelect ops&&yH6 .any ops [] l&&decide (Region.ready .any ops (yMr [] l)=[k])&&!([k]:List Nat).isEmpty&&([k]:List Nat).all (fun k=>ops[k]?.isSome)&&decide (n=(yS ops []).length+(fuel+1)))=true) (h:S w)
 (H:∀K:Act→World→Prop,Hid (∀d b,S b→wpAnyH P .any ops Q S fuel (l.setIfInBounds k true) d b→K d b)→wpList P ops (Exit.then K Q) [o] a w)
 (i:yS ops [k]=[o]:=by simp only [yS,zD,zE,zC,zB,zA];rfl) :
 wpAnyH P .any ops Q S n l a w :=
 yAq [] k [] e g h (Zt H) rfl i
end
end
section
open Go.RowKit Go.Proofs Go.Shelf
attribute [local go_sem] qV
theorem yh:Tryz.prog.underlying 33=some (.struct (Tryz.prog.fieldsOf 33)):=by kernel_rfl
theorem yu:(Tryz.prog.info? 33).map (·.size)=some 3:=by kernel_rfl
theorem yT {W:World} {b:Nat} {u0 u1 u2:Value} (h:W.heap[b]? = some (.cells #[u0,u1,u2] 33 (0,0))) (a c d:Value) :
 (((W.setCell ⟨b,0,none⟩ a).setCell ⟨b,1,none⟩ c).setCell ⟨b,2,none⟩ d).heap[b]? = some (.cells #[a,c,d] 33 (0,0))∧Below b W (((W.setCell ⟨b,0,none⟩ a).setCell ⟨b,1,none⟩ c).setCell ⟨b,2,none⟩ d) :=
 ⟨yM (i:=2) (yM (i:=1) (yM (i:=0) h a) c) d,(((Zc b W).setCell (p:=⟨b,0,none⟩) (zT _) a).setCell (p:=⟨b,1,none⟩) (zT _) c).setCell (p:=⟨b,2,none⟩) (zT _) d⟩
theorem yEc (T:ByteArray) (s:T.size≤2097152) (c g:Int) (h:Bool) (w:World) (t:T8 w) :
 Calls Tryz.prog 72 #[T,.agg #[c,h,g]] w fun e w'=>e=.returned (.agg #[.int .i64 (ctI T c),false,.int .i64 (-1)])∧Below w w w':=by
 obtain⟨a,i⟩:=nm ((yEx T c).1);obtain⟨y,l⟩:∃a,(yEx T c).2=a:=⟨_,rfl⟩;have m:ctI T c=a:=i;rw [m];obtain⟨h0,f,d,n⟩:=yBq w (.cells #[c,h,g] 33) (.cells #[.int .i64 0,false,.int .i64 0] 33);go_enter Tryz.func72,Tryz.ntmps72;go_upto_region 1 with fail;generalize (w.alloc _).alloc _=W1 at h0 f d n ⊢;have o:=lh (cAt_any T s c W1 (t.below rfl d));obtain⟨B,p⟩:=nm (w.heap.size);rw [p] at h0 f n d ⊢;have u:=qc1 h0;rw [i,l] at o;clear i l m;go_upto_region 2 with (go_at_call 112;refine o.out.mono ?_;rintro e j ⟨rfl,k⟩);have b:=(k.block (B+1) (by omega)).trans f;obtain⟨q,r⟩:=yT b (.int .i64 a) (.bool false) (.int .i64 (-1));obtain⟨z,A,C⟩:=qc3 b;have D:j.frozen? ⟨B+1,0,none⟩=false:=fz b;have E:j.frozen? ⟨B+1,1,none⟩=false:=fz b;have F:j.frozen? ⟨B+1,2,none⟩=false:=fz b;have v:=lh q;have x:=lh ((d.trans (k.mono (by omega))).trans (r.mono (Nat.le_succ B)));clear h0 f d k q r b u;go_wp2;exact qC (JT (ty:=33) rfl _ _ (B+1) _ _ _ _ rfl v.out yh rfl yu) rfl ⟨rfl,p▸x.out⟩
theorem ccut_any (a len c d fin:Int) (w:World) :
 Calls Tryz.prog 110 #[.agg #[a,len,.int .u8 c,d,.int .i8 fin]] w fun e w'=>e=.returned (.bool (yDm fin))∧Below w w w':=by
 have f:=qal w (.cells #[a,len,.int .u8 c,d,.int .i8 fin] 24);have j:(w.alloc (.cells #[a,len,.int .u8 c,d,.int .i8 fin] 24)).heap[w.heap.size]? = some (.cells #[a,len,.int .u8 c,d,.int .i8 fin] 24 (0,0)):=zL w _;obtain⟨v,b⟩:=nm (yDm fin);rw [b];have i:=lh b;clear b;go_enter Tryz.func110,Tryz.ntmps110;go_upto_region 1 with fail;generalize w.alloc _=W0 at f j ⊢;obtain⟨-,-,-,-,k⟩:=qc5 j;by_cases g:fin=2
 ·subst g;have b:true=v:=i.out;subst b;go_wp2;go_ret;exact⟨rfl,f⟩
 ·have l:(fin==2)=false:=zN.2 g;by_cases h:fin=3
  ·subst h;have b:true=v:=i.out;subst b;go_wp2;go_ret;exact⟨rfl,f⟩
  ·have m:(fin==3)=false:=zN.2 h;have b:v=false:=(by rw [←i.out];unfold yDm;rw [zP g,zP h];rfl);subst b;clear g h;go_wp2;go_ret;exact⟨rfl,f⟩
theorem csign_any (n:Int) (w:World):Calls Tryz.prog 78 #[n] w fun e w'=>e=.returned (.int .i64 (if n<0 then -1 else 1))∧w'=w:=by
 by_cases h:n<0
 ·rw [Zg h];go_enter Tryz.func78,Tryz.ntmps78;go_wp2;go_ret;exact⟨rfl,rfl⟩
 ·rw [Zf h];go_enter Tryz.func78,Tryz.ntmps78;go_wp2;go_ret;exact⟨rfl,rfl⟩
theorem yF2 (W:World) (b i:Nat) (v:Value):W.grownBy (W.setCell ⟨b,i,none⟩ v) (some b) :=
 ⟨rfl,rfl,rfl,by simp [World.setCell],fun k _ a=>Below.heap_setCell _ _ _ _ (fun e=>a (by simp [e]))⟩
theorem yCp {W:World} {B b:Nat} {o:Obj} (h:W.heap[b]? = some o) (d:b≠B) (u0 u1 u2:Value):(((W.setCell ⟨B,0,none⟩ u0).setCell ⟨B,1,none⟩ u1).setCell ⟨B,2,none⟩ u2).heap[b]? = some o:=by
 have a:∀(X:World) (i:Nat) (u:Value),X.heap[b]? = some o→(X.setCell ⟨B,i,none⟩ u).heap[b]? = some o:=fun X i u c=>((yF2 X B i u).block b (zH.1 c).1 (fun e=>by cases e;exact d rfl)).trans c;exact a _ _ _ (a _ _ _ (a _ _ _ h))
theorem yL1 (T:ByteArray) (hs:T.size≤2097152) (c j:Int) (k:Bool) (w:World) (z:T8 w) :
 Calls Tryz.prog 43 #[T,.agg #[c,k,j]] w fun e w'=>e=.returned (.agg #[.int .i64 (nxtI T c),false,.int .i64 (-1)])∧Below w w w':=by
 have M:=lh (fun (W:World) (h:Below w w W)=>yEc T hs c j k W (z.below rfl h));obtain⟨kb,N⟩:=yOc T c;have A:=N.1;have r:=lh (fun (W:World) (h:Below w w W)=>yId (T.extract (ctI T c) T.size) W (z.below rfl h) (by have:=yCh T (ctI T c) T.size A (zT _);omega));have C:ctI T c+nextI (T.extract (ctI T c) T.size)≤T.size:=nxt_le T (ctI T c) A;obtain⟨R,l⟩:=nm (nxtI T c);rw [l];unfold nxtI at l;obtain⟨a,O⟩:=nm (ctI T c);rw [O] at M A r l C;obtain⟨q,P⟩:=nm (nextI (T.extract a T.size));rw [P] at r l C;obtain⟨h0,D,s,Q⟩:=yBq w (.cells #[c,k,j] 33) (.cells #[.int .i64 0,false,.int .i64 0] 33);have b2:IntKind.i64.wrap ((a:Int)+(q:Int))=(R:Int):=by rw [ZH];omega
 have b3:(0:Int)≤(a:Int):=by omega
 have b4:(a:Int)≤(T.size:Int):=by omega
 clear O P z N l C;go_enter Tryz.func43,Tryz.ntmps43;go_upto_region 1 with fail;generalize (w.alloc _).alloc _=W1 at h0 D s Q ⊢;have U:=lh (M.out W1 s);obtain⟨B,m⟩:=nm (w.heap.size);have X:=lh s;have Y:=lh h0;have Z:=lh D;rw [m] at Y Z Q ⊢;have c0:W1.cell? ⟨B,0,none⟩=some (.int .i64 c):=by rw [m] at h0;simp [World.cell?,h0]
 have c1:W1.cell? ⟨B,1,none⟩=some (.bool k):=by rw [m] at h0;simp [World.cell?,h0]
 have c2:W1.cell? ⟨B,2,none⟩=some (.int .i64 j):=by rw [m] at h0;simp [World.cell?,h0]
 clear h0 D s;go_upto_region 2 with (go_at_call 72;refine U.out.mono ?_;rintro e d ⟨rfl,t⟩;have b:=(t.block B (by omega)).trans Y.out;have E:d.cell? ⟨B,0,none⟩=some (.int .i64 c):=(ce b);have e1:d.cell? ⟨B,1,none⟩=some (.bool k):=(ce b);have e2:d.cell? ⟨B,2,none⟩=some (.int .i64 j):=(ce b);have F:d.frozen? ⟨B,0,none⟩=false:=(fz b);have f1:d.frozen? ⟨B,1,none⟩=false:=(fz b);have f2:d.frozen? ⟨B,2,none⟩=false:=(fz b));have a5:=lh (X.out.trans (t.mono X.out.size));have G1:=lh ((t.block (B+1) (by omega)).trans Z.out);have G0:=lh (show (((d.setCell ⟨B,0,none⟩ (.int .i64 a)).setCell ⟨B,1,none⟩ (.bool false)).setCell ⟨B,2,none⟩ (.int .i64 (-1))).heap[B]? = some (.cells #[a,false,.int .i64 (-1)] 33 (0,0)) from (yT b _ _ _).1);obtain⟨V,n⟩:=nm (((d.setCell ⟨B,0,none⟩ (.int .i64 a)).setCell ⟨B,1,none⟩ (.bool false)).setCell ⟨B,2,none⟩ (.int .i64 (-1)));have a0:Below B d V:=by rw [←n];exact (yT b _ _ _).2
 have u:=G0.out;rw [n] at u ⊢;have a1:V.heap[B+1]? = some (.cells #[.int .i64 0,false,.int .i64 0] 33 (0,0)):=by
  have h:=G1.out;rw [←n];exact yCp h (by omega) _ _ _
 have b5:V.heap.size=d.heap.size:=by rw [←n];simp
 have v:=lh (a5.out.trans (m▸a0));have b6:B+2≤V.heap.size:=by have:=t.size;omega
 clear b E e1 e2 F f1 f2 n G0 G1 a0 c0 c1 c2 U;refine yLe (fun W=>Below V V W) (by kernel_rfl) (by kernel_rfl) ?_;have G:Below V V V.drew:=(Zc _ _).drew;obtain⟨S,x⟩:∃S:World→Prop,(fun W=>Below V V W)=S:=⟨_,rfl⟩;have a2:∀W,S W→Below V V W:=fun W h=>by rw [←x] at h;exact h
 have H:∀W,Below V V W→S W:=fun W h=>by rw [←x];exact h
 rw [x];have y0:∀p:WIn S,p.w.cell? ⟨B,0,none⟩=some (.int .i64 a):=fun p=>yB (a2 _ p.h) (by omega) (ce u);have y:=lh H;have a6:Nonempty (WIn S):=⟨⟨V,H _ (Zc _ _)⟩⟩;have HN:=lh (r.out V.drew (v.out.trans (G.mono v.out.size)));have a7:=lh u;have a8:=lh a1;clear a2 H x u a1 r;simp only [yAz,nop,yDx];refine yAq [0,1,2,3,4,5] 6 [_,_,_,_,_,_] (fuel:=3) (yOo yC) (by kernel_rfl) (y.out _ G) ?_
 repeat (go_big_quiet_step (fail))
 refine Zt ?_;intro K a3;go_wp2_with (go_at_call 80;refine HN.out.mono ?_;rintro e f ⟨rfl,a9⟩);have o:Below V V f:=G.trans a9;refine a3.out _ _ (y.out _ o) ?_;clear a3;refine yAi [7,8,9] (yOo yC) (by kernel_rfl) (y.out _ o) ?_;simp only [yS,zD,zE,zC,zB,zA];show wpQuiet _ _ _ _ [_,_,_] _
 repeat (go_big_quiet_step (fail))
 refine Zt ?_;change wpList _ _ _ _ _ _;have b:=(o.block B (by omega)).trans a7.out;have I:=(o.block (B+1) (by omega)).trans a8.out;have E:=qc1 b;have F:f.frozen? ⟨B,0,none⟩=false:=fz b;have b0:=lh (v.out.trans (o.mono v.out.size));clear y0 a6 y HN;go_wp2;refine NoPanic.normal ?_;have J:(f.setCell ⟨B,0,none⟩ (.int .i64 R)).heap[B]? = some (.cells #[R,false,.int .i64 (-1)] 33 (0,0)):=yM (i:=0) b _;have g:(f.setCell ⟨B,0,none⟩ (.int .i64 R)).heap[B+1]? = some (.cells #[.int .i64 0,false,.int .i64 0] 33 (0,0)):=((Zu f B (.int .i64 R)).block (B+1) (zH.1 I).1 (fun e=>qF (zu e) (by omega))).trans I;have L:Below w w (f.setCell ⟨B,0,none⟩ (.int .i64 R)):=b0.out.setCell (p:=⟨B,0,none⟩) (by show w.heap.size≤B;omega) _;generalize f.setCell _ _=w4 at J g L ⊢;obtain⟨hg,a4⟩:=yT g (.int .i64 R) (.bool false) (.int .i64 (-1));obtain⟨c0,c1,c2⟩:=qc3 J;obtain⟨d0,d1,d2⟩:=qc3 g;have k0:w4.frozen? ⟨B+1,0,none⟩=false:=fz g;have k1:w4.frozen? ⟨B+1,1,none⟩=false:=fz g;have k2:w4.frozen? ⟨B+1,2,none⟩=false:=fz g;have HG:=lh hg;have b1:=lh (L.trans (a4.mono (by omega)));clear b I J g L hg a4 E F;go_wp2;exact qC (JT (ty:=33) rfl _ _ (B+1) _ _ _ _ rfl HG.out yh rfl yu) rfl ⟨rfl,b1.out⟩
end
section
def yAb (x:St):List St→List St
 | []=>[x]
 | y::t=>if y.x<x.x then y::yAb x t else x::y::t
def yAc:List St→List St
 | []=>[]
 | x::t=>yAb x (yAc t)
def mg (A B:List St):List St:=A.foldr yAb B
def yBg:List St→Prop
 | []=>True
 | x::t=>(∀y∈t,x.x≤y.x)∧yBg t
theorem yGd (x:St):∀(l:List St) (z:St),z∈yAb x l↔z=x∨z∈l
 | [],z=>by simp [yAb]
 | y::t,z=>by
   rw [yAb];split
   ·rw [zX,yGd x t z,zX];constructor
    ·rintro (h | h | h)
     ·exact .inr (.inl h)
     ·exact .inl h
     ·exact .inr (.inr h)
    ·rintro (h | h | h)
     ·exact .inr (.inl h)
     ·exact .inl h
     ·exact .inr (.inr h)
   ·rw [zX]
theorem yQy (x:St):∀l:List St,(yAb x l).length=l.length+1
 | []=>rfl
 | y::t=>by
   rw [yAb];split
   ·rw [zb,yQy x t,zb]
   ·rfl
theorem yo:∀l:List St,(yAc l).length=l.length
 | []=>rfl
 | x::t=>by rw [yAc,yQy,yo t,zb]
theorem yCy:∀(l:List St) (z:St),z∈yAc l↔z∈l
 | [],z=>Iff.rfl
 | x::t,z=>by rw [yAc,yGd,yCy t z,zX]
theorem insL_srt (x:St):∀l:List St,yBg l→yBg (yAb x l)
 | [],_=>⟨fun y b=>qF b (by simp),trivial⟩
 | y::t,⟨h1,h2⟩=>by
   rw [yAb];split
   ·rename_i c;refine⟨fun z a=>?_,insL_srt x t h2⟩;rcases (yGd x t z).1 a with rfl | a
    ·omega
    ·exact h1 z a
   ·rename_i c;refine⟨fun z a=>?_,h1,h2⟩;rcases zX.1 a with rfl | a
    ·omega
    ·have:=h1 z a;omega
theorem yDl:∀l:List St,yBg (yAc l)
 | []=>trivial
 | x::t=>insL_srt x _ (yDl t)
theorem yJ6 (x:St) (l:List St) (h:∀y∈l,x.x≤y.x):yAb x l=x::l:=by
 cases l with
 | nil=>rfl
 | cons y t =>
   rw [yAb,Zf];have:=h y (zR ..);omega
theorem isrt_id:∀l:List St,yBg l→yAc l=l
 | [],_=>rfl
 | x::t,⟨h1,h2⟩=>by rw [yAc,isrt_id t h2,yJ6 x t h1]
theorem insL_comm (a x:St) (h:a.x<x.x):∀D:List St,yAb a (yAb x D)=yAb x (yAb a D)
 | []=>by
   rw [yAb,yAb,yAb,Zf (by omega),yAb,Zg h,yAb]
 | y::t=>by
   by_cases e:y.x<x.x
   ·by_cases c:y.x<a.x
    ·have b:yAb x (y::t)=y::yAb x t:=(by rw [yAb,Zg e]);have d:yAb a (y::t)=y::yAb a t:=(by rw [yAb,Zg c]);rw [b,d,yAb,Zg c,yAb,Zg e,insL_comm a x h t]
    ·have b:yAb x (y::t)=y::yAb x t:=(by rw [yAb,Zg e]);have d:yAb a (y::t)=a::y::t:=(by rw [yAb,Zf c]);rw [b,d,yAb,Zf c,yAb,Zg h,b]
   ·have c:¬ y.x<a.x:=(by omega);have b:yAb x (y::t)=x::y::t:=(by rw [yAb,Zf e]);have d:yAb a (y::t)=a::y::t:=(by rw [yAb,Zf c]);rw [b,d,yAb,Zf (by omega),yAb,Zg h,b]
theorem mg_insL (x:St) (C:List St):∀A:List St,mg (yAb x A) C=yAb x (mg A C)
 | []=>rfl
 | a::A=>by
   rw [yAb];split
   ·rename_i h;show yAb a (mg (yAb x A) C)=yAb x (yAb a (mg A C));rw [mg_insL x C A,insL_comm a x h]
   ·rfl
theorem mg_isrt (C:List St):∀A:List St,mg (yAc A) C=mg A C
 | []=>rfl
 | a::A=>by
   rw [yAc,mg_insL,mg_isrt C A];rfl
theorem yK8 (B:List St):∀A:List St,yAc (A++B)=mg A (yAc B)
 | []=>rfl
 | a::A=>by
   rw [zo,yAc,yK8 B A];rfl
theorem isrt_mg (A B:List St):mg (yAc A) (yAc B)=yAc (A++B):=by rw [mg_isrt,yK8]
theorem insL_past (a:St):∀(B C:List St),(∀b∈B,b.x<a.x)→yAb a (B++C)=B++yAb a C
 | [],C,_=>rfl
 | b::B,C,h=>by
   rw [zo,yAb,Zg (h b (zR ..)),insL_past a B C (fun y c=>h y (zc _ c))];rfl
theorem yNm (a:St) (C:List St) (h:∀c∈C,a.x≤c.x):∀D:List St,yAb a (D++C)=yAb a D++C
 | []=>by rw [zp,yJ6 a C h];rfl
 | d::D=>by
   rw [zo,yAb,yAb];split
   ·rw [yNm a C h D];rfl
   ·rfl
theorem mg_mem:∀(A B:List St) (z:St),z∈mg A B↔z∈A∨z∈B
 | [],B,z=>by simp [mg]
 | a::A,B,z=>by
   show z∈yAb a (mg A B)↔_;rw [yGd,mg_mem A B z,zX,or_assoc]
theorem mg_len:∀(A B:List St),(mg A B).length=A.length+B.length
 | [],B=>by simp [mg]
 | a::A,B=>by
   show (yAb a (mg A B)).length=_;rw [yQy,mg_len A B,zb];omega
theorem yOk (B C:List St):∀A:List St,(∀a∈A,∀b∈B,b.x<a.x)→mg A (B++C)=B++mg A C
 | [],_=>rfl
 | a::A,h=>by
   show yAb a (mg A (B++C))=B++yAb a (mg A C);rw [yOk B C A (fun y c=>h y (zc _ c)),insL_past a B _ (h a (zR ..))]
theorem yGb (B C:List St):∀A:List St,(∀a∈A,∀c∈C,a.x≤c.x)→mg A (B++C)=mg A B++C
 | [],_=>rfl
 | a::A,h=>by
   show yAb a (mg A (B++C))=yAb a (mg A B)++C;rw [yGb B C A (fun y b=>h y (zc _ b)),yNm a C (h a (zR ..))]
theorem mg_app (C:List St) (b:List St):∀c:List St,mg (c++b) C=mg c (mg b C)
 | []=>rfl
 | a::A=>by
   show yAb a (mg (A++b) C)=yAb a (mg A (mg b C));rw [mg_app C b A]
theorem mg_split (f d g e:List St) (j:∀a∈f,∀b∈e,a.x≤b.x) (k:∀a∈f,∀b∈d,a.x≤b.x) (l:∀a∈d,∀b∈g,b.x<a.x):mg (f++d) (g++e)=mg f g++mg d e:=by
 rw [mg_app,yOk g e d l,yGb g (mg d e) f];intro a i c m;rcases (mg_mem d e c).1 m with h | h
 ·exact k a i c h
 ·exact j a i c h
theorem yKd (A:List St) (h:yBg A):mg A []=A:=by
 have:=yK8 [] A;rw [zq] at this;exact this.symm.trans (isrt_id A h)
theorem yDk:∀(A B:List St),yBg (A++B)↔yBg A∧yBg B∧∀a∈A,∀b∈B,a.x≤b.x
 | [],B=>by simp [yBg]
 | a::A,B=>by
   rw [zo,yBg,yBg,yDk A B];constructor
   ·rintro⟨e,h,i,f⟩;refine⟨⟨fun y c=>e y (JF _ c),h⟩,i,fun x d b g=>?_⟩;rcases zX.1 d with rfl | d
    ·exact e b (List.mem_append_right _ g)
    ·exact f x d b g
   ·rintro⟨⟨e,h⟩,i,f⟩;refine⟨fun y c=>?_,h,i,fun x d b g=>f x (zc _ d) b g⟩;rcases ZF.1 c with c | c
    ·exact e y c
    ·exact f a (zR ..) y c
theorem yFw:∀(l:List St),yBg l→∀(i j:Nat) (x y:St),i≤j→l[i]? = some x→l[j]? = some y→x.x≤y.x
 | [],_,i,j,x,y,_,h,_=>by simp at h
 | z::t,⟨h1,h2⟩,0,j,x,y,_,hx,hy=>by
   have:z=x:=(by simpa using hx);subst this;cases j with
   | zero =>
     have:z=y:=(by simpa using hy);subst this;exact Zr _
   | succ j=>exact h1 y (zS (by simpa using hy))
 | z::t,⟨h1,h2⟩,i+1,0,x,y,h,_,_=>qF h (by omega)
 | z::t,⟨h1,h2⟩,i+1,j+1,x,y,h,hx,hy=>yFw t h2 i j x y (by omega) (by simpa using hx) (by simpa using hy)
theorem yMp (A B:List St) (m:yBg A) (t:yBg B) (s e:Nat) (H:s≤A.length) (I:e≤B.length)
 (w:s=0∨e=B.length∨∃x y,A[s-1]? = some x∧B[e]? = some y∧x.x≤y.x) (C:s=A.length∨e=0∨∃x y,A[s]? = some x∧B[e-1]? = some y∧y.x<x.x) :
 mg A B=mg (A.take s) (B.take e)++mg (A.drop s) (B.drop e):=by
 have u:=mg_split (A.take s) (A.drop s) (B.take e) (B.drop e);rw [zw,zw] at u;have o:∀{l:List St} {n:Nat} {z:St},z∈l.take n→∃i,i<n∧l[i]? = some z:=fun {l n z} h=>by
  obtain⟨i,c⟩:=qk.1 h;rw [zv] at c;split at c
  ·rename_i D;exact⟨i,D,c⟩
  ·cases c
 have p:∀{l:List St} {n:Nat} {z:St},z∈l.drop n→∃i,n≤i∧l[i]? = some z:=fun {l n z} h=>by
  obtain⟨i,c⟩:=qk.1 h;rw [ZI] at c;exact⟨n+i,by omega,c⟩
 refine u (fun a g b k=>?_) (fun a g b k=>?_) (fun a g b k=>?_)
 ·obtain⟨i,c,d⟩:=o g;obtain⟨j,v,f⟩:=p k;have J:=(zG.1 f).1;rcases w with h | h | ⟨x,y,q,r,E⟩
  ·omega
  ·omega
  ·have F:=yFw A m i (s-1) a x (by omega) d q;have G:=yFw B t e j y b (by omega) r f;omega
 ·obtain⟨i,c,d⟩:=o g;obtain⟨j,v,f⟩:=p k;exact yFw A m i j a b (by omega) d f
 ·obtain⟨i,c,d⟩:=p g;obtain⟨j,v,f⟩:=o k;have K:=(zG.1 d).1;rcases C with h | h | ⟨x,y,q,r,E⟩
  ·omega
  ·omega
  ·have F:=yFw A m s i x a (by omega) q d;have G:=yFw B t j (e-1) b y (by omega) f r;omega
theorem yOq (P Q:List St) (x y:St):(P++x::Q).set P.length y=P++y::Q:=by
 rw [qm _ _ (zT _),Zk];rfl
theorem yKv (P Q:List St) (x d:St):(P++x::Q).getD P.length d=x:=by
 rw [zI,zr (zT _),Zk];rfl
theorem yFd (P Q:List St) (x:St):(P++x::Q)[P.length]? = some x:=by
 rw [zr (zT _),Zk];rfl
theorem swapL_app (P Q:List St) (y x:St):yJw (P++y::x::Q) P.length=P++x::y::Q:=by
 unfold yJw;have a:P++y::x::Q=(P++[y])++x::Q:=by simp
 have b:P.length+1=(P++[y]).length:=by simp
 have c:(P++y::x::Q).getD (P.length+1) default=x:=by rw [a,b];exact yKv _ _ _ _
 have d:(P++y::x::Q).getD P.length default=y:=yKv _ _ _ _;rw [c,d,a,b,yOq,zZ];exact yOq P _ y x
theorem mg_one_lt (S:List St) (y x:St) (b:yBg (S++[y])) (h:x.x<y.x):mg (S++[y]) [x]=mg S [x]++[y]:=by
 rw [mg_app];have e:mg [y] [x]=[x]++[y]:=by
  show yAb y [x]=_;rw [yAb,Zg h];rfl
 rw [e,yGb [x] [y] S];intro a d c f;exact ((yDk S [y]).1 b).2.2 a d c f
theorem mg_one_ge (S:List St) (x:St) (b:yBg S) (h:∀a∈S,a.x≤x.x):mg S [x]=S++[x]:=by
 have:=yGb [] [x] S (fun a d c e=>by rcases zO.1 e with rfl;exact h a d);rw [zp,yKd S b] at this;exact this
theorem isrt_snoc (T:List St) (x:St):yAc (T++[x])=mg (yAc T) [x]:=by rw [yK8,mg_isrt];rfl
theorem insJ_app (R:List St) (x:St):∀(n:Nat) (S:List St),S.length=n→yBg S→insJ (S++x::R) n=mg S [x]++R
 | 0,S,h,_=>by
   rw [ZE.1 h];rfl
 | n+1,S,h,hS=>by
   obtain⟨b,y,rfl⟩:∃b y,S=b++[y]:=⟨S.dropLast,S.getLast (by intro e;rw [e] at h;simp at h),(List.dropLast_concat_getLast _).symm⟩;have d:b.length=n:=(by simpa using h);have f:b++[y]++x::R=b++y::x::R:=(by simp);have i:(b++y::x::R).getD n default=y:=(by rw [←d];exact yKv _ _ _ _);have j:(b++y::x::R).getD (n+1) default=x:=by
    rw [←f,←d,show b.length+1=(b++[y]).length by simp];exact yKv _ _ _ _
   rw [f,insJ,j,i];split
   ·rename_i g;have k:yJw (b++y::x::R) n=b++x::y::R:=(by rw [←d];exact swapL_app _ _ _ _);rw [k,insJ_app (y::R) x n b d ((yDk b [y]).1 hS).1,mg_one_lt b y x hS g];simp
   ·rename_i g;rw [mg_one_ge (b++[y]) x hS]
    ·simp
    ·intro a c;rcases ZF.1 c with c | c
     ·have:=((yDk b [y]).1 hS).2.2 a c y (zO.2 rfl);omega
     ·rcases zO.1 c with rfl;omega
theorem sortJ_app:∀(b a:List St) ,yJu b.length a.length (yAc a++b)=yAc (a++b)
 | [],a=>by
   rw [zq,zq];rfl
 | x::b,a=>by
   rw [zb,yJu,insJ_app b x a.length (yAc a) (yo a) (yDl a),←isrt_snoc];have:=sortJ_app b (a++[x]);rw [zJ,zZ] at this;exact this
theorem yQf (l:List St):yJu (l.length-1) 1 l=yAc l:=by
 cases l with
 | nil=>rfl
 | cons x t =>
   have:=sortJ_app t [x];exact this
theorem order_nodup (c:List Nat):(orderI c).Nodup:=by
 unfold orderI yAl;rw [List.nodup_iff_pairwise_ne,List.pairwise_map];refine (List.nodup_iff_pairwise_ne.1 List.nodup_range).imp (fun {a b} e d=>e ?_);have d:oF (lvF c) c.length (0+1) (topF c c.length) a=oF (lvF c) c.length (0+1) (topF c c.length) b:=by
  have:((oF (lvF c) c.length (0+1) (topF c c.length) a:Nat):Int)=(oF (lvF c) c.length (0+1) (topF c c.length) b:Nat):=d
  exact_mod_cast this
 rw [←tF_oF (lvF c) c.length (topF c c.length) (0+1) a,d,tF_oF]
theorem order_mem (a:List Nat):∀i∈orderI a,0≤i∧i.toNat<a.length:=fun i d=>by
 obtain⟨k,b⟩:=qk.1 d;have c:=(zG.1 b).1;rw [yJj] at c;obtain⟨j,f,e⟩:=seen_get a a.length k rfl c;rw [e] at b;have:=zu b;omega
def wsL (L:List Pc):List Int→Int
 | []=>0
 | i::t=>(L.getD i.toNat default).wide+wsL L t
theorem edgeF_not (j:Nat):∀(o:List Int) (x:Int) (L:List Pc),(∀i∈o,i.toNat≠j)→(yDo o x L).getD j default=L.getD j default
 | [],_,_,_=>rfl
 | i::t,x,L,h=>by
   rw [yDo,edgeF_not j t _ _ (fun k a=>h k (zc _ a)),zI,List.getElem?_set_ne (h i (zR ..)),←zI]
theorem set_wide (L:List Pc) (i j:Nat) (a b:Int):((L.set i { L.getD i default with e0:=a,e1:=b }).getD j default).wide=(L.getD j default).wide:=by
 rw [zI,ZP];by_cases h:i=j
 ·subst h;rw [Zg rfl];by_cases c:i<L.length
  ·rw [Zg c];rfl
  ·rw [Zf c,zI,qD (by omega)]
 ·rw [Zf h,←zI]
theorem wsL_set (L:List Pc) (i:Nat) (a b:Int):∀o:List Int,wsL (L.set i { L.getD i default with e0:=a,e1:=b }) o=wsL L o
 | []=>rfl
 | k::t=>by rw [wsL,wsL,set_wide,wsL_set L i a b t]
theorem wsL_nn (L:List Pc) (h:∀j:Nat,0≤(L.getD j default).wide):∀o:List Int,0≤wsL L o
 | []=>Zr _
 | k::t=>by
   rw [wsL];have:=wsL_nn L h t;have:=h k.toNat;omega
theorem edgeF_bd:∀(o:List Int) (x:Int) (L:List Pc),o.Nodup→(∀i∈o,0≤i∧i.toNat<L.length)→(∀j:Nat,0≤(L.getD j default).wide) →
 ∀i∈o,x≤((yDo o x L).getD i.toNat default).e0∧((yDo o x L).getD i.toNat default).e0≤((yDo o x L).getD i.toNat default).e1∧((yDo o x L).getD i.toNat default).e1≤x+wsL L o
 | [],_,_,_,_,_,i,hi=>by cases hi
 | k::t,x,L,hd,hm,hw,i,hi=>by
   obtain⟨d,f⟩:=List.nodup_cons.1 hd;have g:=hm k (zR ..);have q:=hw k.toNat;rw [yDo,wsL];by_cases b:i=k
   ·subst b;have l:∀j∈t,j.toNat≠i.toNat:=fun j a e=>by
     have r:=hm j (zc _ a);have:j=i:=(by omega);exact d (this▸a)
    rw [edgeF_not i.toNat t _ _ l];have m:((L.set i.toNat { L.getD i.toNat default with e0:=x,e1:=x+(L.getD i.toNat default).wide }).getD i.toNat default)={ L.getD i.toNat default with e0:=x,e1:=x+(L.getD i.toNat default).wide }:=by
     rw [zI,ZP,Zg rfl,Zg g.2];rfl
    rw [m];have s:=wsL_nn L hw t;refine⟨Zr _,?_,?_⟩
    ·show x≤x+_;omega
    ·show x+_≤_;omega
   ·have n:i∈t:=by
     rcases zX.1 hi with e | h
     ·exact qF e b
     ·exact h
    have c:=edgeF_bd t (x+(L.getD k.toNat default).wide) (L.set k.toNat { L.getD k.toNat default with e0:=x,e1:=x+(L.getD k.toNat default).wide }) f
     (fun j a=>by rw [ZQ];exact hm j (zc _ a)) (fun j=>by rw [set_wide];exact hw j) i n
    rw [wsL_set] at c;obtain⟨u,p,v⟩:=c;exact⟨by omega,p,by omega⟩
theorem yI3:∀(n:Nat) (o:List Nat),o.Nodup→(∀i∈o,i<n)→o.length≤n∧(o.length=n→∀f:Nat→Int,(o.map f).foldr (·+·) 0=((List.range n).map f).foldr (·+·) 0)
 | 0,o,_,hm=>by
   have:o=[]:=by
    cases o with
    | nil=>rfl
    | cons a t=>exact qF (hm a (zR ..)) (Zo _)
   subst this;exact⟨zT _,fun _ _=>rfl⟩
 | n+1,o,hd,hm=>by
   have c:∀(l:List Int) (z:Int),l.foldr (·+·) z=l.foldr (·+·) 0+z:=fun l=>by
    induction l with
    | nil=>intro z;simp
    | cons a t ih=>intro z;rw [List.foldr_cons,List.foldr_cons,ih z];omega
   have d:∀(l m:List Nat),l.Perm m→∀f:Nat→Int,(l.map f).foldr (·+·) 0=(m.map f).foldr (·+·) 0:=fun l m h f=>by
    induction h with
    | nil=>rfl
    | cons x _ ih=>rw [Zd,Zd,List.foldr_cons,List.foldr_cons,ih]
    | swap x y l=>simp only [Zd,List.foldr_cons];omega
    | trans _ _ ih1 ih2=>rw [ih1,ih2]
   by_cases h:n∈o
   ·have g:=List.perm_cons_erase h;have r:=List.length_erase_of_mem h;have s:0<o.length:=List.length_pos_of_mem h;obtain⟨j,k⟩:=yI3 n (o.erase n) (hd.erase n) (fun i b=>by
     have p:=hm i (List.mem_of_mem_erase b);have q:i≠n:=((List.Nodup.mem_erase_iff hd).1 b).1;omega)
    refine⟨by omega,fun e f=>?_⟩;rw [d _ _ g f,Zd,List.foldr_cons,k (by omega) f,List.range_succ,zW,List.foldr_append,ZA,c _ (([f n]:List Int).foldr (·+·) 0)];show f n+_=_+(f n+0);omega
   ·obtain⟨j,_⟩:=yI3 n o hd (fun i b=>by
     have p:=hm i b;have q:i≠n:=fun e=>h (e▸b);omega)
    exact⟨by omega,fun e=>qF e (by omega)⟩
theorem wsL_fold (L:List Pc):∀o:List Int,wsL L o=((o.map Int.toNat).map (fun j=>(L.getD j default).wide)).foldr (·+·) 0
 | []=>rfl
 | i::t=>by rw [wsL,wsL_fold L t];rfl
theorem wsum_fold:∀(L:List Pc),yHd L=((List.range L.length).map (fun j=>(L.getD j default).wide)).foldr (·+·) 0
 | []=>rfl
 | p::t=>by
   rw [yHd,wsum_fold t,zb,List.range_succ_eq_map,Zd,List.foldr_cons,zx];rfl
theorem wsL_all (L:List Pc) (o:List Int) (f:o.Nodup) (c:∀i∈o,0≤i∧i.toNat<L.length) (g:o.length=L.length):wsL L o=yHd L:=by
 have h:(o.map Int.toNat).Nodup:=by
  rw [List.nodup_iff_pairwise_ne,List.pairwise_map];refine List.Pairwise.imp_of_mem ?_ (List.nodup_iff_pairwise_ne.1 f);intro a b d k l e;have n:=(c a d).1;have p:=(c b k).1;exact l (by omega)
 have:=(yI3 L.length (o.map Int.toNat) h (fun i m=>by
  obtain⟨a,d,rfl⟩:=ZG.1 m;exact (c a d).2)).2 (by rw [zK,g]) (fun j=>(L.getD j default).wide)
 rw [wsL_fold,wsum_fold];exact this
theorem yQq (L:List Pc) (h:∀j:Nat,0≤(L.getD j default).wide):∀o:List Int,((yKo L o).length:Int)=wsL L o
 | []=>rfl
 | i::t=>by
   have a:=yQq L h t;have hw:=h i.toNat;rw [yKo,zJ,wsL,Int.natCast_add,a]
   congr 1
   split
   ·rw [yQ3];omega
   ·show (0:Int)=_;omega
section
variable (s:ByteArray) (tab want:Int) (wideA join raw:Bool) (ra rl rw:Int)
theorem layL_nn (j:Nat):0≤((layL s tab want wideA join raw ra rl rw).getD j default).wide:=by
 rw [zI];cases h:(layL s tab want wideA join raw ra rl rw)[j]? with
 | none=>exact Zr _
 | some p=>exact (layL_bd s tab want wideA join raw ra rl rw p (zS h)).1
theorem lay3_nn (j:Nat):0≤((lay3 s tab want wideA join raw ra rl rw).1.getD j default).wide:=by
 rw [zI];cases h:(lay3 s tab want wideA join raw ra rl rw).1[j]? with
 | none=>exact Zr _
 | some p=>exact (lay3_bd s tab want wideA join raw ra rl rw p (zS h)).1
theorem lay3_len:(lay3 s tab want wideA join raw ra rl rw).1.length=(lay2 s want join raw ra rl).length:=by unfold lay3;exact yIt _ _ _ _ _ _ _ _
theorem yPa:(laySeen s want join raw ra rl).Nodup∧(∀i∈laySeen s want join raw ra rl,0≤i∧i.toNat<(lay2 s want join raw ra rl).length)∧(laySeen s want join raw ra rl).length=(lay2 s want join raw ra rl).length:=by
 unfold laySeen;refine⟨order_nodup _,fun i a=>?_,by rw [yJj,zK]⟩;have:=order_mem _ i a;rw [zK] at this;exact this
theorem lay_count:((yQo (layI s tab want wideA join raw ra rl rw)).length:Int)=(layI s tab want wideA join raw ra rl rw).wide:=by
 obtain⟨b,c,d⟩:=yPa s want join raw ra rl;have a:=yLn s tab want wideA join raw ra rl rw;refine (yQq (layL s tab want wideA join raw ra rl rw) (layL_nn s tab want wideA join raw ra rl rw) (laySeen s want join raw ra rl)).trans ?_;rw [wsL_all _ _ b (fun i e=>by rw [a];exact c i e) (by rw [a];exact d)];exact (yPv s tab want wideA join raw ra rl rw).symm
theorem lay_edges (j:Nat) (C:j<(layL s tab want wideA join raw ra rl rw).length):0≤((layL s tab want wideA join raw ra rl rw).getD j default).e0∧((layL s tab want wideA join raw ra rl rw).getD j default).e0≤((layL s tab want wideA join raw ra rl rw).getD j default).e1 ∧
 ((layL s tab want wideA join raw ra rl rw).getD j default).e1≤(layI s tab want wideA join raw ra rl rw).wide:=by
 obtain⟨g,d,r⟩:=yPa s want join raw ra rl;have D:=yLn s tab want wideA join raw ra rl rw;have k:=lay3_len s tab want wideA join raw ra rl rw;have u:(j:Int)∈laySeen s want join raw ra rl:=by
  refine Classical.byContradiction fun v=>?_;have w:((laySeen s want join raw ra rl).map Int.toNat).Nodup:=by
   rw [List.nodup_iff_pairwise_ne,List.pairwise_map];refine List.Pairwise.imp_of_mem ?_ (List.nodup_iff_pairwise_ne.1 g);intro a b f m x e;have n:=(d a f).1;have E:=(d b m).1;exact x (by omega)
  have y:j ∉ (laySeen s want join raw ra rl).map Int.toNat:=fun h=>by
   obtain⟨a,f,e⟩:=ZG.1 h;have n:=(d a f).1;exact v (by rw [←e,Int.toNat_of_nonneg n];exact f)
  have:=(yI3 (lay2 s want join raw ra rl).length (j::(laySeen s want join raw ra rl).map Int.toNat) (List.nodup_cons.2 ⟨y,w⟩) (fun i c=>by
   rcases zX.1 c with rfl | c
   ·omega
   ·obtain⟨a,f,rfl⟩:=ZG.1 c;exact (d a f).2)).1
  rw [zb,zK] at this;omega
 have m:=edgeF_bd (laySeen s want join raw ra rl) 0 (lay3 s tab want wideA join raw ra rl rw).1 g (fun i c=>by rw [k];exact d i c) (lay3_nn s tab want wideA join raw ra rl rw) (j:Int) u;obtain⟨z,A,o⟩:=m;refine⟨z,A,?_⟩;have hw:wsL (lay3 s tab want wideA join raw ra rl rw).1 (laySeen s want join raw ra rl)=(layI s tab want wideA join raw ra rl rw).wide:=by
  rw [wsL_all _ _ g (fun i c=>by rw [k];exact d i c) (by rw [k];exact r)];refine Eq.trans ?_ (yPv s tab want wideA join raw ra rl rw).symm;have B:=Zb (fun l:List Int=>l.foldr (·+·) 0) (yMs s tab want wideA join raw ra rl rw);have q:∀L:List Pc,yHd L=(L.map (·.wide)).foldr (·+·) 0:=fun L=>by
   induction L with
   | nil=>rfl
   | cons p t ih=>rw [yHd,ih];rfl
  rw [q,q];exact B.symm
 rw [←hw];have:(0:Int)+wsL (lay3 s tab want wideA join raw ra rl rw).1 (laySeen s want join raw ra rl)=wsL (lay3 s tab want wideA join raw ra rl rw).1 (laySeen s want join raw ra rl):=Int.zero_add _;rw [this] at o;exact o
theorem lay_wide_nn:0≤(layI s tab want wideA join raw ra rl rw).wide:=by
 rw [←lay_count];omega
theorem edge_in (i:Nat) (f:i≤(layI s tab want wideA join raw ra rl rw).l.length) (a:Bool):0≤yDe (layI s tab want wideA join raw ra rl rw) i a∧yDe (layI s tab want wideA join raw ra rl rw) i a≤(layI s tab want wideA join raw ra rl rw).wide:=by
 have hw:=lay_wide_nn s tab want wideA join raw ra rl rw;have b:=lay_edges s tab want wideA join raw ra rl rw;have h:i≤(layL s tab want wideA join raw ra rl rw).length:=f;unfold yDe;split
 ·split <;> omega
 ·rename_i g;split
  ·rename_i c;have d:i≠0:=fun e=>g ⟨c,e⟩;have:=b (i-1) (by omega);split
   ·exact⟨this.1,Int.le_trans this.2.1 this.2.2⟩
   ·exact⟨Int.le_trans this.1 this.2.1,this.2.2⟩
  ·split
   ·split <;> omega
   ·rename_i c d;have j:i≠(layL s tab want wideA join raw ra rl rw).length:=d;have:=b i (by omega);split
    ·exact⟨Int.le_trans this.1 this.2.1,this.2.2⟩
    ·exact⟨this.1,Int.le_trans this.2.1 this.2.2⟩
theorem layL_pos:(∀p∈layL s tab want wideA join raw ra rl rw,p.a+p.size≤yk s ra rl∧0<p.size)∧(layL s tab want wideA join raw ra rl rw=[]→ym s ra=yk s ra rl):=by
 have b:(layL s tab want wideA join raw ra rl rw).map (fun p=>(p.a,p.size))=(inPs s (ym s ra) (yk s ra rl)).map (fun q=>(q.1,q.2.size)):=by
  rw [yIc (fun p=>(p.a,p.size)) (fun _ _ _=>rfl) (fun _ _ _=>rfl),yGf (fun p=>(p.a,p.size)) (fun _ _=>rfl) (fun _ _=>rfl)];have:=Zb (List.map (fun x:Nat × Nat × Nat=>(x.1,x.2.1))) (yJk (inPs s (ym s ra) (yk s ra rl)) 0);simpa [zx,yAo,Function.comp_def] using this
 obtain⟨f,g,_,_⟩:=yFh s (yN8 s ra) (rowA_le s ra);obtain⟨i,j,_,_⟩:=yFh s (rowB s ra rl) (yJe s ra rl).2;have k:ym s ra≤yk s ra rl:=upB_mono s _ _ (yJe s ra rl).1 (yJe s ra rl).2;obtain⟨_,_,c,l,_⟩:=yD6 (show yQ s (ym s ra) f from g) (show yQ s (yk s ra rl) i from j) k;refine⟨fun p m=>?_,fun h=>?_⟩
 ·have d:(p.a,p.size)∈(layL s tab want wideA join raw ra rl rw).map (fun p=>(p.a,p.size)):=ZG.2 ⟨p,m,rfl⟩;rw [b] at d;obtain⟨q,n,e⟩:=ZG.1 d;simp only [Prod.mk.injEq] at e;have:=l q n;omega
 ·rw [h,List.map_nil] at b;have:inPs s (ym s ra) (yk s ra rl)=[]:=List.map_eq_nil_iff.1 b.symm;rw [this] at c;exact c
end
theorem yMm (c:Int) (L:List Pc):∀pre:List Pc,(∀p∈pre,((p.a+p.size:Nat):Int)≤c)→leftF c (pre++L)=pre.length+leftF c L
 | [],_=>by simp
 | p::t,h=>by
   rw [zo,leftF,Zg (h p (zR ..)),yMm c L t (fun q b=>h q (zc _ b)),zb];omega
theorem yP8 (W:LaidR) (c:Bool) (i p:Nat) (b:St) (h:b∈yA7 W c i p):b.a=p∧b.x=yDe W i b.back:=by
 unfold yA7 at h;rcases ZF.1 h with h | h
 ·split at h
  ·rcases zO.1 h with rfl;exact⟨rfl,rfl⟩
  ·cases h
 ·split at h
  ·rcases zO.1 h with rfl;exact⟨rfl,rfl⟩
  ·cases h
theorem yK1 (W:LaidR) (e:Bool) (f:∀p∈W.l,p.a+p.size≤W.tt∧0<p.size) (g:W.l.Pairwise (fun p q=>p.a+p.size≤q.a)) :
 ∀(L pre:List Pc),W.l=pre++L→∀b∈stopsF W e L pre.length,(∃i,i≤W.l.length∧b.x=yDe W i b.back)∧b.x=yEk W (b.a:Int) b.back
 | [],pre,hW,b,c=>by
   rw [stopsF] at c;obtain⟨h,d⟩:=yP8 W e pre.length W.tt b c;rw [zq] at hW;refine⟨⟨pre.length,by rw [hW];exact zT _,d⟩,?_⟩;unfold yEk;have:=yMm (b.a:Int) [] pre (fun p j=>by
    have:=(f p (by rw [hW];exact j)).1;omega)
   rw [zq,leftF,Zl] at this;rw [hW,this];exact d
 | p::t,pre,hW,b,c=>by
   rw [stopsF] at c;rcases ZF.1 c with c | c
   ·obtain⟨h,d⟩:=yP8 W e pre.length p.a b c;refine⟨⟨pre.length,by rw [hW,zJ];omega,d⟩,?_⟩;unfold yEk;rw [hW] at g;have k:=(qO.1 g).2.2;have:=yMm (b.a:Int) (p::t) pre (fun q m=>by
     have:=k q m p (zR ..);omega)
    have n:=(f p (by rw [hW];exact List.mem_append_right _ (zR ..))).2;rw [leftF,Zf (by omega),Zl] at this;rw [hW,this];exact d
   ·have:=yK1 W e f g t (pre++[p]) (by rw [hW];simp) b;rw [zJ] at this;exact this c
theorem yKm (x:Int):∀(l:List St) (b:St),(yFy x l b=b∨yFy x l b∈l)∧yEz (yFy x l b).x x≤yEz b.x x∧∀d∈l,yEz (yFy x l b).x x≤yEz d.x x
 | [],b=>⟨.inl rfl,Zr _,fun d h=>by cases h⟩
 | s::t,b=>by
   rw [yFy];by_cases h:yEz s.x x<yEz b.x x
   ·rw [Zg h];obtain⟨a,e,f⟩:=yKm x t s;refine⟨.inr ?_,by omega,fun d c=>?_⟩
    ·rcases a with a | a
     ·rw [a];exact zR ..
     ·exact zc _ a
    ·rcases zX.1 c with rfl | c
     ·exact e
     ·exact f d c
   ·rw [Zf h];obtain⟨a,e,f⟩:=yKm x t b;refine⟨?_,e,fun d c=>?_⟩
    ·rcases a with a | a
     ·exact .inl a
     ·exact .inr (zc _ a)
    ·rcases zX.1 c with rfl | c
     ·omega
     ·exact f d c
theorem yEi (W:LaidR) (fin:Int):stopsI W fin=yAc (rawS W fin):=yQf _
theorem hit_spec (W:LaidR) (fin x:Int) (h:stopsI W fin≠[]):yHo W fin x∈stopsI W fin∧∀c∈stopsI W fin,yEz (yHo W fin x).x (min (max x 0) W.wide)≤yEz c.x (min (max x 0) W.wide):=by
 obtain⟨b,f,d⟩:=yKm (min (max x 0) W.wide) (stopsI W fin) ((stopsI W fin).getD 0 default);refine⟨?_,d⟩;rcases b with b | b
 ·unfold yHo;rw [b];cases e:stopsI W fin with
  | nil=>exact qF e h
  | cons a t=>exact zR ..
 ·exact b
theorem yCe (s:ByteArray) (tab want:Int) (wideA join raw:Bool) (ra rl rw fin:Int) (W:LaidR) (c:W=layI s tab want wideA join raw ra rl rw) :
 stopsI W fin≠[]∧(∀b∈stopsI W fin,yEk W (b.a:Int) b.back=b.x∧0≤b.x∧b.x≤W.wide)∧yBg (stopsI W fin)∧((yQo W).length:Int)=W.wide ∧
  (∀x:Int,yHo W fin x∈stopsI W fin∧∀b∈stopsI W fin,yEz (yHo W fin x).x (min (max x 0) W.wide)≤yEz b.x (min (max x 0) W.wide)) ∧
  (∀b∈stopsI W fin,yEk W ((yHo W fin b.x).a:Int) (yHo W fin b.x).back=b.x):=by
 obtain⟨k,n⟩:=layL_pos s tab want wideA join raw ra rl rw;have o:=layL_pw s tab want wideA join raw ra rl rw;have m:∀b,b∈stopsI W fin↔b∈rawS W fin:=fun b=>by rw [yEi];exact yCy _ b
 have q:∀b∈rawS W fin,yEk W (b.a:Int) b.back=b.x∧0≤b.x∧b.x≤W.wide:=fun b d=>by
  subst c;obtain⟨⟨i,r,u⟩,v⟩:=yK1 (layI s tab want wideA join raw ra rl rw) (yDm fin) k o (layI s tab want wideA join raw ra rl rw).l [] rfl b d;have:=edge_in s tab want wideA join raw ra rl rw i r b.back;rw [←u] at this;exact⟨v.symm,this⟩
 have f:stopsI W fin≠[]:=fun e=>by
  have h0:∀b,b ∉ rawS W fin:=fun b h=>by
   have:=(m b).2 h;rw [e] at this;cases this
  unfold rawS at h0;cases hl:W.l with
  | nil =>
    rw [hl,stopsF] at h0;have w:W.fr=W.tt:=by
     subst c;exact n hl
    have g:yHx W (yDm fin) W.tt=true:=(by unfold yHx;rw [zQ w,Bool.or_true]);refine h0 ⟨W.tt,false,yDe W 0 false⟩ ?_;unfold yA7;rw [Zg g];exact JF _ (zO.2 rfl)
  | cons p t =>
    rw [hl,stopsF] at h0;have y:p.a<W.tt:=by
     subst c;have:=k p (by
      have z:layL s tab want wideA join raw ra rl rw=p::t:=hl;rw [z];exact zR ..)
     show p.a<yk s ra rl;omega
    have g:yHx W (yDm fin) p.a=true:=(by unfold yHx;rw [zQ y,Bool.true_or,Bool.true_or]);refine h0 ⟨p.a,false,yDe W 0 false⟩ (JF _ ?_);unfold yA7;rw [Zg g];exact JF _ (zO.2 rfl)
 have j:∀b∈stopsI W fin,yEk W (b.a:Int) b.back=b.x∧0≤b.x∧b.x≤W.wide:=fun b h=>q b ((m b).1 h);refine⟨f,j,by rw [yEi];exact yDl _,?_,fun x=>hit_spec W fin x f,fun b d=>?_⟩
 ·subst c;exact lay_count s tab want wideA join raw ra rl rw
 ·obtain⟨A,B⟩:=hit_spec W fin b.x f;obtain⟨E,F,G⟩:=j b d;obtain⟨C,H,I⟩:=j _ A;have:=B b d;rw [C];have D:min (max b.x 0) W.wide=b.x:=(by omega);rw [D] at this;unfold yEz at this;omega
structure OneR where
 r:RowV
 at':Nat
 line:ByteArray
instance:Inhabited OneR:=⟨⟨⟨0,0,0,0,0⟩,0,⟨#[]⟩⟩⟩
def oneL (p:Nat × ByteArray) (rs:List RowV):List OneR:=rs.map fun r=>⟨r,p.1,p.2⟩
def yDt (line:ByteArray):Bool:=decide ((ye line).getLast?.getD 0=2)
def cutL (T:ByteArray) (p:Nat × ByteArray):Bool:=decide (p.1+p.2.size<T.size)&&!yDt p.2
def yGw:List OneR→List OneR
 | []=>[]
 | [x]=>[{ x with r:={ x.r with fin:=3 } }]
 | x::y::t=>x::yGw (y::t)
def yGx (T:ByteArray) (wd tab want:Int) (wideA raw:Bool) (acc:List OneR) (p:Nat × ByteArray):List OneR :=
 if cutL T p=true then yGw (acc++oneL p (rowsI p.2 wd tab want wideA raw)) else acc++oneL p (rowsI p.2 wd tab want wideA raw)
def yEs (T:ByteArray) (wd tab want:Int) (wideA raw:Bool):List (Nat × ByteArray)→List OneR→List OneR
 | [],acc=>acc
 | p::t,acc=>yEs T wd tab want wideA raw t (yGx T wd tab want wideA raw acc p)
def pageI (T:ByteArray) (wd tab want:Int) (wideA raw:Bool):List OneR:=yEs T wd tab want wideA raw (linesI T) []
theorem yPe:∀L:List OneR,(yGw L).length=L.length
 | []=>rfl
 | [_]=>rfl
 | _::y::t=>by rw [yGw,zb,yPe (y::t)];rfl
theorem yNp (x:OneR):∀L:List OneR,yGw (L++[x])=L++[{ x with r:={ x.r with fin:=3 } }]
 | []=>rfl
 | [y]=>rfl
 | y::z::t=>by
   show yGw (y::(z::(t++[x])))=_;rw [yGw];have:=yNp x (z::t);rw [zo] at this;rw [this];rfl
theorem setEnd_set {L:List OneR} {x:OneR} (h:L[L.length-1]? = some x):yGw L=L.set (L.length-1) { x with r:={ x.r with fin:=3 } }:=by
 have a:L≠[]:=fun e=>by rw [e] at h;simp at h
 obtain⟨D,y,rfl⟩:∃D y,L=D++[y]:=⟨L.dropLast,L.getLast a,(List.dropLast_concat_getLast a).symm⟩;have b:(D++[y]).length-1=D.length:=by simp
 rw [b] at h ⊢;have:y=x:=by simpa using h
 subst this;rw [yNp,qm _ _ (zT _),Zk];rfl
theorem yKe (T:ByteArray) (a b c:Int) (d e:Bool) (f:List OneR) (p:Nat × ByteArray):(yGx T a b c d e f p).length=f.length+(rowsI p.2 a b c d e).length:=by
 unfold yGx oneL;split
 ·rw [yPe,zJ,zK]
 ·rw [zJ,zK]
theorem yQh (T:ByteArray) (b c d:Int) (e f:Bool):∀(L:List (Nat × ByteArray)) (a:List OneR),a.length≤(yEs T b c d e f L a).length
 | [],_=>zT _
 | p::t,a=>by
   rw [yEs];have g:=yQh T b c d e f t (yGx T b c d e f a p);rw [yKe] at g;omega
theorem last_cons {α:Type} {l:List α} {v:α} (x:α) (h:l.getLast? = some v):(x::l).getLast? = some v:=by
 cases l with
 | nil=>simp at h
 | cons y t=>rw [qM];exact h
theorem yNa:∀(t:List Int) (a b:Int),(yHk (t++[2]) a b).getLast? = some 2
 | [],a,b=>rfl
 | k::t,a,b=>by
   rw [zo,yHk];exact last_cons _ (yNa t k _)
theorem whereK_must (ks:List Int):(yIs (ks++[2])).getLast? = some 2:=by
 cases ks with
 | nil=>rfl
 | cons k t=>exact yNa t k _
theorem yN0:∀(L:List (Nat × ByteArray)) (ks:List Int),L.length=ks.length→ks.getLast? = some 2→∃e,yCd L ks=some e
 | [],ks,h,h2=>by
   have:ks=[]:=qL h.symm;subst this;simp at h2
 | p::t,[],h,h2=>by simp at h
 | p::t,k::ks,h,h2=>by
   rw [yCd];by_cases e:k=2
   ·exact⟨p.1,Zg e⟩
   ·rw [Zf e];refine yN0 t ks (by simpa using h) ?_;cases ks with
    | nil=>simp at h2;exact qF h2 e
    | cons y u=>rwa [qM] at h2
theorem must_text (a:ByteArray) (h:yDt a=true):(yU a).size<a.size:=by
 unfold yDt at h;have h:=JZ h;have c:(ye a).getLast? = some 2:=by
  cases e:(ye a).getLast? with
  | none=>rw [e] at h;cases h
  | some v=>rw [e] at h;exact Zb some h
 obtain⟨e,b⟩:=yN0 (yF a) (ye a) (yFg a).symm c;obtain⟨pre,p,d,f,g,_⟩:=yIr _ _ _ b;have i:=(yF0 a pre 0 p d (zd _) f).2.2.1;unfold yU;have:yBz a=some e:=b;rw [this];show (a.extract 0 e).size<_;rw [yCh a 0 e (zd _) (by omega)];omega
def yL5 (s:ByteArray) (p:Nat × ByteArray):Prop:=(∃k,yQ s p.1 k)∧(∃k,yQ s (p.1+p.2.size) k)∧p.2=s.extract p.1 (p.1+p.2.size)
def LOk (s:ByteArray):List (Nat × ByteArray)→Prop
 | []=>True
 | [p]=>yL5 s p∧p.1+p.2.size=s.size
 | p::q::t=>yL5 s p∧yDt p.2=true∧q.1=p.1+p.2.size∧LOk s (q::t)
theorem yOh (s:ByteArray):∀L,LOk s L→∀p∈L,yL5 s p∧(p.1+p.2.size=s.size∨yDt p.2=true)
 | [],_,p,a=>by cases a
 | [q],h,p,a=>by
   rcases zO.1 a with rfl;exact⟨h.1,.inl h.2⟩
 | q::r::t,h,p,a=>by
   rcases zX.1 a with rfl | a
   ·exact⟨h.1,.inr h.2.1⟩
   ·exact yOh s (r::t) h.2.2.2 p a
theorem lnF_ok (s:ByteArray) (m:s.size≤65536):∀(f a fr b c:Nat),yQ s a b→yQ s fr c→fr≤a→s.size≤a+f→LOk s (lnF s (piecesF s s.size a) fr)
 | 0,a,fr,b,c,ha,hf,hle,hz=>by
   have e:a=s.size:=(by have:=ha.1;omega);subst e;rw [yd,lnF];have h:=hf.1;have g:fr+(s.extract fr s.size).size=s.size:=(by rw [yCh s fr _ h (zT _)];omega);exact⟨⟨⟨c,hf⟩,⟨b,by show yQ s (fr+(s.extract fr s.size).size) b;rw [g];exact ha⟩,by show s.extract fr s.size=s.extract fr (fr+(s.extract fr s.size).size);rw [g]⟩,g⟩
 | f+1,a,fr,b,c,ha,hf,hle,hz=>by
   by_cases n:a<s.size
   ·have G:=yJ s a (by omega);have H:=yY (s.extract a s.size) (by omega);obtain⟨e,o⟩:=nm (a+nextI (s.extract a s.size));have d:yQ s e (b+1):=o▸ha.next n;have l:=yL s a n;rw [o] at l;have r:(s.extract a e).size=e-a:=yCh s a e (by omega) d.1;rw [l,lnF];unfold yJt frLn;have u:¬ (fr+65536<((a,s.extract a e):Nat × ByteArray).1+((a,s.extract a e):Nat × ByteArray).2.size):=by
     show ¬ (fr+65536<a+(s.extract a e).size);have:=d.1;rw [r];omega
    have z:frN fr (a,s.extract a e)=fr:=(by unfold frN;rw [Zf u]);have A:a+(s.extract a e).size=e:=(by rw [r];omega);rw [z,Zf u,zp];show LOk s ((if yz (s.extract a e)=2 then [(fr,s.extract fr (a+(s.extract a e).size))] else [])++lnF s (piecesF s s.size e) (if yz (s.extract a e)=2 then a+(s.extract a e).size else fr));rw [A];by_cases i:yz (s.extract a e)=2
    ·rw [Zg i,Zg i];have v:=lnF_ok s m f e e (b+1) (b+1) d d (zT _) (by omega);have j:=yCg s (piecesF s s.size e) e e (yG0 s s.size e d.1 (by omega)) (zT _);have k:fr+(s.extract fr e).size=e:=(by rw [yCh s fr e (by omega) d.1];omega);have w:yL5 s (fr,s.extract fr e):=⟨⟨c,hf⟩,⟨_,by show yQ s (fr+(s.extract fr e).size) _;rw [k];exact d⟩,by show s.extract fr e=s.extract fr (fr+(s.extract fr e).size);rw [k]⟩;have B:yDt (s.extract fr e)=true:=by
      have C:c≤b:=by
       by_cases q:fr=a
       ·subst q;exact Nat.le_of_eq (bord_eq hf ha)
       ·exact Zq (bord_lt hf ha (by omega))
      obtain⟨L,D,_⟩:=yLk hf ha C;have x:piecesF s s.size fr=(L++[(a,s.extract a e)])++piecesF s s.size e:=(by rw [D,l];simp);have E:=(yBj s _ fr e hf.1 d.1 x).1;obtain⟨I,J,y,K⟩:=yGy s fr c hf ((L++[(a,s.extract a e)]).map (·.2)) ((piecesF s s.size e).map (·.2)) (by rw [x,zW]);rw [E] at y;unfold yDt;rw [yP3];have F:(yF (s.extract fr e)).map (fun p=>yz p.2)=(L.map fun p=>yz p.2)++[2]:=by
       have:=Zb (List.map yz) y;rw [zx,zx] at this;have h:(yF (s.extract fr e)).map (fun p=>yz p.2)=(L++[(a,s.extract a e)]).map (fun p=>yz p.2):=by first | exact this | exact this.symm
       rw [h,zW,ZA,i]
      rw [F,whereK_must];rfl
     cases hq:lnF s (piecesF s s.size e) e with
     | nil=>rw [hq] at j;exact⟨w,by show fr+(s.extract fr e).size=_;rw [k];exact j⟩
     | cons q t =>
       rw [hq] at j v;exact⟨w,B,by show q.1=fr+(s.extract fr e).size;rw [k];exact j.1,v⟩
    ·rw [Zf i,Zf i,zp];exact lnF_ok s m f e fr (b+1) c d hf (by omega) (by omega)
   ·have e:a=s.size:=(by have:=ha.1;omega);subst e;rw [yd,lnF];have h:=hf.1;have g:fr+(s.extract fr s.size).size=s.size:=(by rw [yCh s fr _ h (zT _)];omega);exact⟨⟨⟨c,hf⟩,⟨b,by show yQ s (fr+(s.extract fr s.size).size) b;rw [g];exact ha⟩,by show s.extract fr s.size=s.extract fr (fr+(s.extract fr s.size).size);rw [g]⟩,g⟩
theorem yIp (s:ByteArray) (a:s.size≤65536):LOk s (linesI s):=lnF_ok s a s.size 0 0 0 0 (yQ.zero s) (yQ.zero s) (zT _) (by omega)
def rowsOfL (wd tab want:Int) (wideA raw:Bool) (L:List (Nat × ByteArray)):List OneR:=L.flatMap fun p=>oneL p (rowsI p.2 wd tab want wideA raw)
theorem yNx (T:ByteArray) (b c d:Int) (e f:Bool):∀(L:List (Nat × ByteArray)) (a:List OneR),(∀p∈L,cutL T p=false)→yEs T b c d e f L a=a++rowsOfL b c d e f L
 | [],a,_=>by rw [yEs];unfold rowsOfL;rw [List.flatMap_nil,zq]
 | p::t,a,h=>by
   rw [yEs,yGx,Zf (by rw [h p (zR ..)];decide),yNx T b c d e f t _ (fun q g=>h q (zc _ g))];unfold rowsOfL;rw [ZK,zZ]
theorem cut_no (T:ByteArray) (a:T.size≤65536):∀p∈linesI T,cutL T p=false:=fun p b=>by
 obtain⟨_,h⟩:=yOh T _ (yIp T a) p b;unfold cutL;rcases h with h | h
 ·rw [zP (by omega)];rfl
 ·rw [h];simp
theorem yHb (T:ByteArray) (f:T.size≤65536) (a b c:Int) (d e:Bool):pageI T a b c d e=rowsOfL a b c d e (linesI T):=by
 unfold pageI;rw [yNx T a b c d e _ [] (cut_no T f),zp]
def yW (x:OneR):Int:=x.at'+x.r.a
def yE0 (x:OneR):Int:=x.at'+x.r.a+x.r.len
def cutR (x:OneR):Bool:=yDm x.r.fin
def Adj (R:OneR→OneR→Prop):List OneR→Prop
 | []=>True
 | [_]=>True
 | x::y::t=>R x y∧Adj R (y::t)
theorem adj_app {R:OneR→OneR→Prop}:∀(A B:List OneR),Adj R A→Adj R B→(∀x y,A.getLast? = some x→B.head? = some y→R x y)→Adj R (A++B)
 | [],B,_,h,_=>h
 | [x],[],_,_,_=>trivial
 | [x],y::t,_,h,hr=>⟨hr x y rfl rfl,h⟩
 | x::y::t,B,h,h2,hr=>⟨h.1,adj_app (y::t) B h.2 h2 (fun u v a b=>hr u v (by rw [qM];exact a) b)⟩
theorem adj_of {R:OneR→OneR→Prop}:∀(L:List OneR),(∀(i:Nat) (x y:OneR),L[i]? = some x→L[i+1]? = some y→R x y)→Adj R L
 | [],_=>trivial
 | [_],_=>trivial
 | x::y::t,h=>⟨h 0 x y rfl rfl,adj_of (y::t) (fun i u v a b=>h (i+1) u v (by simpa using a) (by simpa using b))⟩
def yIa (x y:OneR):Prop:=(cutR x=true→yW y=yE0 x)∧(cutR x=false→yE0 x<yW y)
def yBl (T:ByteArray) (x:OneR):Prop :=
 yL5 T (x.at',x.line)∧∃a len ka ke:Nat,x.r.a=a∧x.r.len=len∧yQ x.line a ka∧yQ x.line (a+len) ke∧(cutR x=true→0<len)
theorem yPu {a:ByteArray} {j:Nat} (h:Ended (yF (yU a)) j):∃k,yQ a j k:=by
 obtain⟨k,p,b,c⟩:=h;obtain⟨d,e,f⟩:=yH9 (yPl a k p b);refine⟨k+1,?_⟩;have:=d.next e;rw [←f,c] at this;exact this
theorem line_rows (T:ByteArray) (p:Nat × ByteArray) (Q:yL5 T p) (m n o:Int) (q r:Bool) :
 Adj yIa (oneL p (rowsI p.2 m n o q r))∧(∀x∈oneL p (rowsI p.2 m n o q r),yBl T x) ∧
  (∀x,(oneL p (rowsI p.2 m n o q r)).getLast? = some x→cutR x=false∧yE0 x=p.1+(yU p.2).size)∧(∀x,(oneL p (rowsI p.2 m n o q r)).head? = some x→yW x=p.1):=by
 obtain⟨_,_,_,F⟩:=yKi p.2 m n o q r _ rfl;obtain⟨X,R⟩:=nm (rowsI p.2 m n o q r);rw [R] at F ⊢;have S:∀e,yBc e≠2∧yBc e≠3:=fun e=>by unfold yBc;split <;> constructor <;> decide
 have w:∀(i:Nat) x,(oneL p X)[i]? = some x→∃v,X[i]? = some v∧x=⟨v,p.1,p.2⟩:=fun i x h=>by
  unfold oneL at h;rw [zm] at h;obtain⟨v,d,e⟩:=Option.map_eq_some_iff.1 h;exact⟨v,d,e.symm⟩
 have hcut:∀(i:Nat) v,X[i]? = some v→∃a len g j:Nat,v.a=a∧v.len=len∧yQ p.2 a g∧yQ p.2 (a+len) j∧(i=0→a=0) ∧
  ((i+1<X.length∧(∃y,X[i+1]? = some y∧y.a=((a+len:Nat):Int))∧0<len∧yDm v.fin=true)∨(i+1=X.length∧a+len=(yU p.2).size∧yDm v.fin=false)):=by
  intro i v d;obtain⟨a,len,s,t,z,b,A,l,N,U⟩:=F i v d;have V:∃k,yQ p.2 (a+len) k:=by
   rcases b with b | b
   ·exact⟨0,by rw [b];exact yQ.zero _⟩
   ·exact yPu b
  have W:∃k,yQ p.2 a k:=by
   cases i with
   | zero=>rw [N rfl];exact⟨0,yQ.zero _⟩
   | succ i =>
     obtain⟨u,c⟩:∃u,X[i]? = some u:=⟨_,zF (by have:=(zG.1 d).1;omega)⟩;obtain⟨Y,Z,g1,g2,g3,B,g5,g6,g7,g8⟩:=F i u c;have O:a=Y+Z:=by
      rcases g8 with ⟨_,⟨y,D,G⟩,_⟩ | ⟨H,_⟩
      ·rw [d] at D;obtain rfl:=zu D;omega
      ·have:=(zG.1 d).1;omega
     rcases B with B | B
     ·exact⟨0,by rw [O,B];exact yQ.zero _⟩
     ·rw [O];exact yPu B
  obtain⟨g,a0⟩:=W;obtain⟨j,a1⟩:=V;refine⟨a,len,g,j,s,t,a0,a1,N,?_⟩;rcases U with ⟨I,J,K,E⟩ | ⟨I,J,K⟩
  ·refine .inl ⟨I,J,K,?_⟩;unfold yDm;rcases E with E | ⟨E,_⟩ <;> rw [E] <;> rfl
  ·refine .inr ⟨I,J,?_⟩;unfold yDm;have:=S (yBz p.2).isSome;rw [←K] at this;rw [zP this.1,zP this.2];rfl
 refine⟨adj_of _ fun i x y f D=>?_,fun x f=>?_,fun x f=>?_,fun x f=>?_⟩
 ·obtain⟨u,c,rfl⟩:=w i x f;obtain⟨v,d,rfl⟩:=w (i+1) y D;obtain⟨a,len,g,j,s,t,z,b,A,l⟩:=hcut i u c;rcases l with ⟨_,⟨y,G,a2⟩,P,L⟩ | ⟨H,_⟩
  ·rw [d] at G;obtain rfl:=zu G;refine⟨fun _=>?_,fun h=>?_⟩
   ·show (p.1:Int)+v.a=p.1+u.a+u.len;omega
   ·have C:yDm u.fin=false:=h;rw [L] at C;cases C
  ·have:=(zG.1 d).1;omega
 ·obtain⟨i,hi⟩:=qk.1 f;obtain⟨u,c,rfl⟩:=w i x hi;obtain⟨a,len,g,j,s,t,z,b,A,l⟩:=hcut i u c;refine⟨Q,a,len,g,j,s,t,z,b,fun L=>?_⟩;have C:yDm u.fin=true:=L;rcases l with ⟨_,_,P,_⟩ | ⟨_,_,M⟩
  ·exact P
  ·rw [M] at C;cases C
 ·rw [qx] at f;obtain⟨u,c,rfl⟩:=w _ x f;have a3:=(zG.1 c).1;have a4:(oneL p X).length=X.length:=(by unfold oneL;rw [zK]);obtain⟨a,len,g,j,s,t,z,b,A,l⟩:=hcut _ u c;rcases l with ⟨H,_⟩ | ⟨H,he,M⟩
  ·omega
  ·refine⟨M,?_⟩;show (p.1:Int)+u.a+u.len=_;omega
 ·rw [List.head?_eq_getElem?] at f;obtain⟨u,c,rfl⟩:=w 0 x f;obtain⟨a,len,g,j,s,t,z,b,A,l⟩:=hcut 0 u c;show (p.1:Int)+u.a=p.1;have:=A rfl;omega
theorem yM7 (T:ByteArray) (a b c:Int) (d e:Bool) (hw:1≤a∧a≤1024) (B:T.size≤65536):∀L,LOk T L→Adj yIa (rowsOfL a b c d e L)∧(∀x∈rowsOfL a b c d e L,yBl T x) ∧
 ∀p t,L=p::t→∃x,(rowsOfL a b c d e L).head? = some x∧yW x=p.1
 | [],_=>⟨trivial,(fun x f=>by cases f),fun p t h=>by cases h⟩
 | [p],h=>by
   obtain⟨j,l,o,g⟩:=line_rows T p h.1 a b c d e;have m:=(yKi p.2 a b c d e _ rfl).2.1 (by
    have C:=h.2;omega)
   have n:rowsOfL a b c d e [p]=oneL p (rowsI p.2 a b c d e):=(by unfold rowsOfL;rw [ZK,List.flatMap_nil,zq]);rw [n];refine⟨j,l,fun q t D=>?_⟩;cases D;cases i:rowsI p.2 a b c d e with
   | nil=>exact qF i m
   | cons v t=>rw [i] at g;exact⟨⟨v,p.1,p.2⟩,rfl,g _ rfl⟩
 | p::q::t,h=>by
   obtain⟨j,l,o,g⟩:=line_rows T p h.1 a b c d e;obtain⟨E,F,G⟩:=yM7 T a b c d e hw B (q::t) h.2.2.2;have C:p.1+p.2.size≤T.size:=(by obtain⟨_,⟨k,H⟩,_⟩:=h.1;exact H.1);have m:=(yKi p.2 a b c d e _ rfl).2.1 (by omega);have K:=must_text p.2 h.2.1;have n:rowsOfL a b c d e (p::q::t)=oneL p (rowsI p.2 a b c d e)++rowsOfL a b c d e (q::t):=(by unfold rowsOfL;rw [ZK]);rw [n];refine⟨adj_app _ _ j E fun x y f s=>?_,fun x f=>?_,fun r u i=>?_⟩
   ·obtain⟨I,M⟩:=o x f;obtain⟨z,J,N⟩:=G q t rfl;rw [J] at s;obtain rfl:=zu s;refine⟨fun A=>(by rw [I] at A;cases A),fun _=>?_⟩;have:=h.2.2.1;omega
   ·rcases ZF.1 f with f | f
    ·exact l x f
    ·exact F x f
   ·cases i;cases hr2:rowsI p.2 a b c d e with
    | nil=>exact qF hr2 m
    | cons v w=>rw [hr2] at g;exact⟨⟨v,p.1,p.2⟩,rfl,g _ rfl⟩
theorem rowsI_off (b:ByteArray) (a c d:Int) (e f:Bool) (h:¬ (1≤a∧a≤1024)):rowsI b a c d e f=[]:=by
 unfold rowsI;rw [Zg (by omega)]
theorem yIx (a b c:Int) (d e:Bool) (h:¬ (1≤a∧a≤1024)):∀L,rowsOfL a b c d e L=[]
 | []=>rfl
 | p::t=>by
   unfold rowsOfL;rw [ZK,rowsI_off _ _ _ _ _ _ h];exact yIx a b c d e h t
theorem yEb (T:ByteArray) (b:T.size≤65536) (a c d:Int) (e f:Bool):Adj yIa (pageI T a c d e f)∧(∀x∈pageI T a c d e f,yBl T x):=by
 rw [yHb T b];by_cases hw:1≤a∧a≤1024
 ·obtain⟨g,h,_⟩:=yM7 T a c d e f hw b _ (yIp T b);exact⟨g,h⟩
 ·rw [yIx _ _ _ _ _ hw];exact⟨trivial,fun x i=>by cases i⟩
end
end Go.Proofs.YtncplikdjcmoeaaGreatDoor
