/- Lemmas, part 15: no further condition than each states. -/
import Derived.Test.YtncplikdjcmoeaaGreatDoorQ14
namespace Go.Proofs.YtncplikdjcmoeaaGreatDoor
set_option linter.unusedVariables false
set_option linter.unusedSimpArgs false
set_option maxRecDepth 100000
set_option maxHeartbeats 4000000
section
open Go.RowKit Go.Proofs Go.Shelf
attribute [local go_sem] qV
theorem yNu {X:World} {b a e z k:Nat} {v:Value} {xs:List Value} (h:X.ownsRow b e z v k xs) (c:a≤b):X.ownsRow a e z v k xs:=yq h c
theorem yPw {X:World} {i j c d k l m n:Nat} {e v2:Value} {o p:List Value} (q:X.ownsRow i c k e m o) (r:X.ownsRow j d l v2 n p) (s:c≠d):v2.ownBlock=none∨v2.ownBlock≠e.ownBlock:=by
 rcases r.2 with ⟨h,_⟩ | ⟨g,cap,u,h,_,t,_⟩
 ·exact .inl (by rw [h];rfl)
 ·refine .inr fun a=>?_;rcases q.2 with ⟨b,_⟩ | ⟨v,w,x,b,_,f,_⟩
  ·rw [h,b] at a;cases a
  ·rw [h,b] at a;cases a;rw [t] at f;cases f;exact s rfl
theorem own_apart {u v:Value} (h:u.ownBlock=none∨u.ownBlock≠v.ownBlock):v.ownBlock=none∨v.ownBlock≠u.ownBlock:=by
 rcases h with h | h
 ·rw [h];cases v.ownBlock with
  | none=>exact .inl rfl
  | some b=>exact .inr (fun e=>by cases e)
 ·exact .inr (fun e=>h e.symm)
def TwS (M:Nat) (wr:World) (v2 v3:Value) (l2 l3:List Value) (W:World):Prop :=
 Below M wr W∧M≤W.heap.size∧W.ownsRow M 3 1 v2 l2.length l2∧W.ownsRow M 3 1 v3 l3.length l3∧(v2.ownBlock=none∨v2.ownBlock≠v3.ownBlock)
section
variable {M:Nat} {wr W W':World} {v2 v3 v' x:Value} {l2 l3:List Value}
theorem TwS.alloc (h:TwS M wr v2 v3 l2 l3 W) (o:Obj):TwS M wr v2 v3 l2 l3 (W.alloc o):=⟨h.1.alloc h.2.1 _,by rw [zM];exact Nat.le_succ_of_le h.2.1,h.2.2.1.alloc _,h.2.2.2.1.alloc _,h.2.2.2.2⟩
theorem TwS.app2 (h:TwS M wr v2 v3 l2 l3 W) (g:W'.ownsRow M 3 1 v' (l2.length+1) (l2++[x])) (a:W.grownBy W' v2.ownBlock) (i:v'.ownBlock=v2.ownBlock∨v'.ownBlock=some W.heap.size):TwS M wr v' v3 (l2++[x]) l3 W':=by
 obtain⟨j,b,l,c,d⟩:=h;refine⟨j.grown a b (fun k m=>(l.lt k m).1),zY b a.size,by rw [zJ];exact g,c.kept a (own_apart d),?_⟩;rcases i with e | e
 ·rw [e];exact d
 ·refine .inr (fun f=>?_);rw [e] at f;have:=(c.lt _ f.symm).2;omega
theorem TwS.app3 (h:TwS M wr v2 v3 l2 l3 W) (g:W'.ownsRow M 3 1 v' (l3.length+1) (l3++[x])) (a:W.grownBy W' v3.ownBlock) (i:v'.ownBlock=v3.ownBlock∨v'.ownBlock=some W.heap.size):TwS M wr v2 v' l2 (l3++[x]) W':=by
 obtain⟨j,b,c,l,d⟩:=h;refine⟨j.grown a b (fun k m=>(l.lt k m).1),zY b a.size,c.kept a d,by rw [zJ];exact g,?_⟩;rcases i with e | e
 ·rw [e];exact d
 ·refine .inr (fun f=>?_);rw [e] at f;have:=(c.lt _ f).2;omega
theorem yK4 {g t:Nat} (h:Boxed W g t x):∀(j:Nat) (u:Value),[x][j]? = some u→W.cell? ((⟨g,0,none⟩:Addr).add j)=some u:=fun j u a=>by
 cases j with
 | zero =>
   have:x=u:=(by simpa using a);subst this;exact h.cell
 | succ j=>simp at a
theorem box_app {g t:Nat} (a:Boxed W g t x) (b:∀k,v2.ownBlock=some k→k≠g) (c:W.grownBy W' v2.ownBlock):Boxed W' g t x:=(c.block g (zH.1 a).1 (fun e=>b g e.symm rfl)).trans a
end
def strV (pre:List (Nat × ByteArray)):List Value:=pre.map fun p=>.string p.2
def sortV (pre:List (Nat × ByteArray)):List Value:=pre.map fun p=>.int .i64 (yDb p.2)
def SgI (s:ByteArray) (w:World) (n:Nat) (pre:List (yO s)) (W:World):Prop :=
 ∃v u,Boxed W n 275 v∧Boxed W (n+1) 93 u∧W.ownsRow (n+3) 9 1 v pre.length (strV (pre.map (·.1)))∧W.ownsRow n 3 1 u pre.length (sortV (pre.map (·.1))) ∧
   Boxed W (n+1+1) 9 (.string s)∧Below n w W∧n+3≤W.heap.size
theorem yAd {X Y:World} {base e z k:Nat} {v:Value} {xs:List Value} (h:X.ownsRow base e z v k xs) {row:Option Nat} (b:X.grownBy Y row) (c:∀k,row=some k→∃o,X.heap[k]? = some o∧o.isCells=false):Y.ownsRow base e z v k xs:=by
 refine JC h b ?_;rcases h.2 with ⟨h,_⟩ | ⟨g,cap,j,h,_,d,_⟩
 ·rw [h];exact .inl rfl
 ·rw [h];refine .inr fun f=>?_;obtain⟨o,a,i⟩:=c _ f.symm;rw [d] at a;cases a;cases i
theorem yEe {X:World} {base e k:Nat} {v:Value} {xs:List Value} (h:X.ownsRow base e 1 v k xs):∃a cap,v=.slice a k cap∧(0<k→∃G,a=some ⟨G,0,none⟩∧base≤G∧G<X.heap.size∧∃b:Array Value,X.heap[G]? = some (.cells b e (0,0))∧∀(i:Nat) (y:Value),xs[i]? = some y→b[i]? = some y):=by
 rcases h.2 with ⟨d,h0⟩ | ⟨g,m,b,d,j,f,n,o,p,l⟩
 ·subst h0;exact⟨none,0,d,fun h=>qF h (Zh _)⟩
 ·refine⟨_,_,d,fun _=>⟨g,rfl,j,(zH.1 f).1,b,f,fun i y c=>?_⟩⟩;rw [←l,zv] at c;split at c
  ·simpa using c
  ·cases c
def SgR (n:Nat) (cs:List ByteArray) (a1 a2:Option Addr) (c1 c2:Nat) (W:World):Prop :=
 Boxed W n 275 (.slice a1 cs.length c1)∧Boxed W (n+1) 93 (.slice a2 cs.length c2) ∧
  (0<cs.length→∃(G1 G2:Nat) (cur1 cur2:Array Value),a1=some ⟨G1,0,none⟩∧a2=some ⟨G2,0,none⟩∧W.heap[G1]? = some (.cells cur1 9 (0,0))∧W.heap[G2]? = some (.cells cur2 3 (0,0))∧∀i,i<cs.length→cur1[i]? = some (.string (clI cs i))∧cur2[i]? = some (.int .i64 (soI cs i)))
theorem SgR.below {n:Nat} {cs:List ByteArray} {c d:Option Addr} {e f:Nat} {W W':World} (h:SgR n cs c d e f W) (g:Below W W W'):SgR n cs c d e f W':=by
 obtain⟨i,j,k⟩:=h;have a:∀{b:Nat} {o:Obj},W.heap[b]? = some o→W'.heap[b]? = some o:=fun h=>(g.block _ (zH.1 h).1).trans h;refine⟨a i,a j,fun h0=>?_⟩;obtain⟨l,m,p,q,r,s,t,u,v⟩:=k h0;exact⟨l,m,p,q,r,s,a t,a u,v⟩
theorem sgR_of {s:ByteArray} {w:World} {n:Nat} {xs:List (yO s)} {W:World} (h:SgI s w n xs W) (g:xs.map (·.1)=yF s):∃c d e f,SgR n (yJn s) c d e f W:=by
 obtain⟨v,u,l,m,j,k,F,G,H⟩:=h;have o:xs.length=(yJn s).length:=by unfold yJn;rw [zK,←g,zK]
 rw [o,g] at j k;obtain⟨c,e,rfl,p⟩:=yEe j;obtain⟨d,f,rfl,q⟩:=yEe k;refine⟨c,d,e,f,l,m,fun h0=>?_⟩;obtain⟨r,t,_,_,x,y,z⟩:=p h0;obtain⟨A,B,_,_,C,D,E⟩:=q h0;refine⟨r,A,x,C,t,B,y,D,fun i b=>⟨z i _ ?_,E i _ ?_⟩⟩
 ·have a:i<(yF s).length:=(by unfold yJn at b;rwa [zK] at b);unfold strV clI yJn;rw [zm,zF a];simp [zI,zm,zF a]
 ·have a:i<(yF s).length:=(by unfold yJn at b;rwa [zK] at b);unfold sortV soI clI yJn;rw [zm,zF a];simp [zI,zm,zF a]
theorem segs2_any (s:ByteArray) (w:World) (hT:T8 w) (hs:s.size≤2097152) :
 Calls Tryz.prog 163 #[s] w fun e w'=>∃a c a2 Q,e=.returned (.tuple #[.slice a (yBt s).length c,.slice a2 (yBt s).length Q])∧yG .i64 3 w' w.heap.size a c ((yBt s).map fun e:Nat=>(e:Int))∧yG .i64 3 w' w.heap.size a2 Q (yBy s)∧Below w w w':=by
 obtain⟨n,R⟩:=nm (w.heap.size);refine (qG (n:=4)).1 ?_;refine qI Tryz.func163 rfl trivial ?_ rfl;simp only [Tryz.ntmps163,qW,zb,zn,Nat.reduceAdd,Nat.reduceSub,qX,qY,qZ,qd,zp,zo];gi_wp2;refine wpIn_wide.2 (wp_scope_straight ((wpIn_wide (n:=4)).1 ?_));gi_wp2;refine⟨trivial,?_⟩;refine (qG.2 (yIy s _)).mono ?_;rintro e' W0 ⟨rfl,b5⟩;have n1:(Tryz.prog.info? 3).map (fun i=>(i.zero,i.size,i.bytes))=some (some (.int .i64 0),1,8):=by kernel_rfl
 have n2:(Tryz.prog.info? 9).map (fun i=>(i.zero,i.size,i.bytes))=some (some (.string ⟨#[]⟩),1,16):=by kernel_rfl
 obtain⟨i3,c8,c9,d0,d3⟩:=info_parts n1;obtain⟨i9,n3,n4,n5,f0⟩:=info_parts n2;have hz:(((w.alloc (Obj.cells #[Value.slice none 0 0] 275)).alloc (Obj.cells #[Value.slice none 0 0] 93)).alloc (Obj.cells #[Value.string s] 9)).heap.size=n+3:=by simp only [zM,R]
 have k1:Boxed W0 n 275 (.slice none 0 0):=by
  rw [b5];refine Eq.trans (qA _ _ _ ?_) (Eq.trans (qA _ _ _ ?_) ?_)
  all_goals first | (simp only [zM,R];omega) | (have:=zL w (.cells #[.slice none 0 0] 275);rw [R] at this;exact this)
 have k2:Boxed W0 (n+1) 93 (.slice none 0 0):=by
  rw [b5];refine Eq.trans (qA _ _ _ ?_) ?_
  all_goals first | (simp only [zM,R];omega) | (have:=zL (w.alloc (.cells #[.slice none 0 0] 275)) (.cells #[.slice none 0 0] 93);rw [zM,R] at this;exact this)
 have k3:Boxed W0 (n+1+1) 9 (.string s):=by
  have:=zL ((w.alloc (.cells #[.slice none 0 0] 275)).alloc (.cells #[.slice none 0 0] 93)) (.cells #[s] 9);rw [zM,zM,R] at this;rw [b5];exact this
 have kb:Below n w W0:=by
  rw [b5];exact (((Zc n w).alloc (by omega) _).alloc (by simp only [zM];omega) _).alloc (by simp only [zM];omega) _
 have kz:W0.heap.size=n+3:=by rw [b5];exact hz
 have g3:T8 W0:=hT.below rfl (by rw [R];exact kb);have h3:Tryz.lays197_ren.g 3<n:=by have:=yD (hT.1 0 (by omega));omega
 have h4:Tryz.lays197_ren.g 4<n:=by have:=yD (hT.2 0 (by omega)).1;omega
 unfold itV;rw [show ((w.alloc (Obj.cells #[Value.slice none 0 0] 275)).alloc (Obj.cells #[Value.slice none 0 0] 93)).alloc (Obj.cells #[Value.string s] 9)=W0 from b5.symm] at *;clear b5;gi_wp2;refine wpIn_rangeFunc_ownF (F:=Fence.wide) rfl (by omega) (gf:=124) (lb:=#[.pointer (some ⟨n+1+1,0,none⟩)]) rfl trivial (qJ Tryz.func124 (by kernel_rfl) rfl)
  (yBf 3 (by omega) (n+1+1) n s (by omega) h3 h4 W0 (by omega) k3.cell g3) (fun h k=>KpB.trans h k) (yEy (w:=W0) (by omega)) (Zc _ _) (fun _=>rfl) (SgI s w n) (fun _ _ _=>False) ?hI (fun _ _ _ _ _ hs _ _=>hs) ?h0
  (fun x=>{ tmps:=(#[.string s,undef,.slice none 0 0,.slice none 0 0,.pointer (some ⟨n,0,none⟩),.pointer (some ⟨n+1,0,none⟩),undef,.string x.1.2,undef,undef,undef,undef,undef,undef,undef,.string s,.func (.func 124) #[] #[.pointer (some ⟨n+1+1,0,none⟩)],.int .i64 x.1.1,.string x.1.2,undef,undef,undef,undef,undef,undef,undef,undef,undef,undef,undef,undef,undef,undef,undef,undef,undef,undef,undef,undef,undef,undef,undef,undef,undef,undef,undef,undef,undef,undef,undef,undef,undef,undef,undef,undef,undef,undef,undef,undef,undef,undef,undef,undef,undef,undef,undef,undef,undef,undef,undef,undef,undef,undef,undef,undef,undef,undef,undef,undef,undef,undef,undef,undef,undef,undef,undef,undef,undef,undef,undef,undef,undef,undef,undef,undef,undef,undef,undef,undef,undef,undef,undef,undef,undef,undef,undef,undef,undef,undef,undef,undef,undef,undef,undef,undef,undef,undef,undef,undef,undef,undef,undef,undef,undef,undef,undef,undef,undef,undef,undef,undef,undef,undef,undef,undef,undef,undef,undef,undef,undef,undef,undef,undef,undef,undef,undef,undef,undef,undef,undef,undef,undef,undef]),defers:=[] }) ?assign ?body ?done ?stop
 case hI =>
  rintro pre X Y row ⟨v,u,r1,r2,r3,r4,r5,r6,r7⟩ E j6;have hr:∀k,row=some k→∃o,X.heap[k]? = some o∧o.isCells=false:=fun k e=>(j6 k e).2;exact⟨v,u,yV r1 E hr,yV r2 E hr,yAd r3 E hr,yAd r4 E hr,yV r5 E hr,r6.grown E (by have:=r6.size;omega) (fun k e=>by have:=(j6 k e).1;omega),zY r7 E.size⟩
 case h0=>exact⟨_,_,k1,k2,Zx _ _ _ _,Zx _ _ _ _,k3,kb,by omega⟩
 case assign =>
  intro l x W K z;gi_wp2;exact z
 case body =>
  rintro l pre x W ⟨v,u,r1,r2,r3,r4,r5,r6,r7⟩ a4;obtain⟨c,g4⟩:=nm (x.1.2);obtain⟨s9,j7⟩:∃a,x.1.1=a:=⟨_,rfl⟩;simp only [j7,g4];have n6:=yAj s;obtain⟨k,d⟩:=nm (pre.length);rw [d] at r3 r4 a4;have t0:k+1≤2097152:=(by omega);have n7:=r1.cell;have HK:=lh d;have HC:=lh g4;have j8:=lh (hT.below rfl (by rw [R];exact r6));have d4:=lh (fun (w':World) (h:T8 w')=>wsort_any c w' h);have R5:=lh r5;clear d n6 a4 j7 g4 hT g3 k1 k2 k3 kb hz;gi_upto_region 6 with (gi_at_builtin;refine Zz _ rfl _ _ 275 rfl (n+3) 9 i9 (.string ⟨#[]⟩) 1 16 Tryz.underlying275 n3 n4 n5 f0 rfl (by decide) _ _ _ rfl (r3.alloc _) ⟨W,0,none⟩ 1 1 [c] rfl rfl (by exact JV _ _ _) (by simp [Value.oneCell']) (by unfold maxLen;omega) (by omega) (by simp;omega) ?_;intro v' w1 d5 d6 _;obtain⟨g',a8,rfl⟩:=ownsRow_succ d5;obtain⟨d7,g5,_,f1,f2⟩:=r1.appended (by decide) (yNu r3 (ZS n 3)) (by omega) (zT _) (yNu d5 (ZS n 3)) d6;have g6:=d5.kept (Zu w1 n (.slice (some ⟨g',0,none⟩) (k+1) a8)) (.inr (d7.not_row (by decide) d5).symm);have n8:=d7.cell;have n9:=d7.frozen);have t2:Boxed (w1.setCell ⟨n,0,none⟩ (.slice (some ⟨g',0,none⟩) (k+1) a8)) (n+1) 93 u:=((r2.alloc _).kept d6 (r2.not_row (by decide) r3)).other (by omega) _;have t5:Boxed (w1.setCell ⟨n,0,none⟩ (.slice (some ⟨g',0,none⟩) (k+1) a8)) (n+1+1) 9 (.string s):=((r5.alloc _).kept d6 (fun e=>by have:=(r3.lt _ e.symm).1;omega)).other (by omega) _;have t4:(w1.setCell ⟨n,0,none⟩ (.slice (some ⟨g',0,none⟩) (k+1) a8)).ownsRow n 3 1 u k (sortV (pre.map (·.1))):=by
   have m:=(r4.alloc (.cells #[c] 9)).kept d6 (yPw r3 r4 (by decide));exact m.kept (Zu w1 n _) (.inr (d7.not_row (by decide) m).symm)
  have t7:n+3≤(w1.setCell ⟨n,0,none⟩ (.slice (some ⟨g',0,none⟩) (k+1) a8)).heap.size:=zY r7 f1.size;generalize w1.setCell _ _=W5 at g5 g6 f1 f2 t2 t5 t4 t7 ⊢;clear d7 n8 n9 d5 d6 r1 r2 r3 r4 r5 n7;have T:=j8.out.keep h3 h4 f2;have j9:=d4.out W5.drew (T.keep h3 h4 (Zc _ _).drew);have o0:=lh j9;have Q:=t2.cell;have V2:=lh g5;have R2:=lh g6;have KK:=lh f1;have B2:=lh f2;have B:=lh t2;have T5:=lh t5;have T4:=lh t4;have R6:=lh r6;obtain⟨S,a0,U⟩:∃S:World→Prop,(∀w',S w'→w'.cell? ⟨n+1,0,none⟩=some u)∧(∀w',w'.cell? ⟨n+1,0,none⟩=some u→S w'):=⟨fun w'=>w'.cell? ⟨n+1,0,none⟩=some u,fun _ h=>h,fun _ h=>h⟩;have g7:∀p:WIn S,p.w.cell? ⟨n+1,0,none⟩=some u:=fun p=>a0 _ p.h;have d8:=lh U;have g9:Nonempty (WIn S):=⟨⟨W5,U _ Q⟩⟩;clear a0 U g5 g6 f1 f2 t2 t5 t4 j9 T d4 j8 r6;refine yGn S [2,0,0] (by kernel_rfl) (by kernel_rfl) (fun _ _ _ _ h=>h) (fun _ _ h=>h) (d8.out _ Q) ?_;simp only [yHw,yAz,nop,yDx,Zm,Zj,qp,ZZ]
  repeat (go_big_quiet_step (fail))
  refine Zt ?_;intro K z;have r:=lh z;clear z;go_wp2_with (go_at_call 197;refine o0.out.mono ?_;rintro e w6 ⟨rfl,C⟩);have o1:=C.size;have o2:W5.heap.size≤w6.heap.size:=o1;replace C:Below W5 W5 w6:=Below.trans (Zc _ _).drew C;refine r.out _ _ (d8.out _ (yB C (by omega) Q)) ?_;clear r;refine Zt ?_;intro K z;have r:=lh z;clear z;go_wp2;have h5:=qal w6 (.cells #[.int .i64 (yDb c)] 3);refine r.out _ _ (d8.out _ (yB h5 (by omega) (yB C (by omega) Q))) ?_;clear r;refine Zt ?_;intro K z;have r:=lh z;clear z;have o6:=yAd (row:=none) T4.out ⟨C.os,C.tape,C.output,C.size,fun k d _=>C.block k d⟩ (fun k e=>by cases e);have q6:=yAd (row:=none) R2.out ⟨C.os,C.tape,C.output,C.size,fun k d _=>C.block k d⟩ (fun k e=>by cases e);have O7:=lh (o6.alloc (.cells #[.int .i64 (yDb c)] 3));go_wp2_with (at_builtin;refine Zy _ rfl _ _ 93 rfl n 3 i3 (.int .i64 0) 1 8 Tryz.underlying93 c8 c9 d0 d3 rfl (by decide) _ k _ rfl O7.out ⟨w6,0,none⟩ 1 1 [.int .i64 (yDb c)] rfl rfl (by exact JV _ _ _) (by simp [Value.oneCell']) (by unfold maxLen;omega) (by omega) (by simp;omega) ?_;intro v' w8 ho E _ _);obtain⟨g8,f3,rfl⟩:=ownsRow_succ ho;obtain⟨Pw,k0⟩:=nm ((w6.alloc (.cells #[.int .i64 (yDb c)] 3)));replace E:(w6.alloc (.cells #[.int .i64 (yDb c)] 3)).grownBy w8 u.ownBlock:=E;have q7:=q6.alloc (.cells #[.int .i64 (yDb c)] 3);have o7:=O7.out;have b8:Below W5 W5 (w6.alloc (.cells #[.int .i64 (yDb c)] 3)):=C.trans (h5.mono o2);rw [k0] at E q7 o7 b8;have f4:∀{b t:Nat} {y:Value},Boxed W5 b t y→Boxed Pw b t y:=fun h=>(b8.block _ (zH.1 h).1).trans h;have V8:=lh (show Boxed w8 n 275 (.slice (some ⟨g',0,none⟩) (k+1) a8) from farS (f4 V2.out) o7 (by decide) E);have b9:=lh (show Boxed w8 (n+1) 93 u from farS (f4 B.out) o7 (by decide) E);have X8:=lh (show Boxed w8 (n+1+1) 9 (.string s) from farS (f4 T5.out) o7 (by decide) E);have Q8:=lh (q7.kept E (yPw o7 q7 (by decide)));have K8:KeepsOthers Pw w8:=qQ E (fun j o hj k5=>by
   rcases o7.2 with ⟨m,_⟩ | ⟨g,a8,t1,m,_,o3,_⟩
   ·rw [m] at hj;cases hj
   ·rw [m] at hj;cases hj;rw [o3] at k5;cases k5;rfl)
  have k6:=lh ((yR b8).trans K8);have h6:Below n W5 w8:=(b8.mono (by omega)).grown E (by have:=b8.size;omega) (fun k d=>(o7.lt k d).1);have h6:=lh h6;have O8:=lh ho;clear E q7 o7 b8 f4 K8 ho q6 o6 C h5 k0;refine r.out _ _ (d8.out _ b9.out.cell) ?_;clear r;simp only [Act.put,zg,zh,zi]
  repeat (go_big_quiet_step (fail))
  refine Zt ?_;change wpList _ _ _ _ _ _;have t3:=b9.out.cell;have t6:=b9.out.frozen;clear d8 Q g7 g9;go_wp2;have f0:Below n W (w8.setCell ⟨n+1,0,none⟩ (.slice (some ⟨g8,0,none⟩) (k+1) f3)):=(B2.out.trans h6.out).setCell (p:=⟨n+1,0,none⟩) (Nat.le_succ _) _;have x9:Boxed (w8.setCell ⟨n+1,0,none⟩ (.slice (some ⟨g8,0,none⟩) (k+1) f3)) (n+1+1) 9 (.string s):=yA X8.out (by omega);refine⟨(KK.out.trans k6.out).trans (ZT _ _ _),⟨f0,fun y hy=>?_⟩,_,_,yA V8.out (by omega),yM (i:=0) b9.out _,?_,?_,x9,R6.out.trans f0,?_⟩
  ·have h0:=R5.out.cell;rw [h0] at hy;cases hy;exact x9.cell
  ·rw [zJ,HK.out,zW];have m:=Q8.out.kept (Zu w8 (n+1) (.slice (some ⟨g8,0,none⟩) (k+1) f3)) (.inr (b9.out.not_row (by decide) Q8.out).symm);unfold strV at m ⊢;rw [zW,show List.map (fun p:Nat × ByteArray=>Value.string p.2) (List.map (fun x:yO s=>x.1) [x])=[.string c] by simp [HC.out]];exact m
  ·rw [zJ,HK.out,zW];have m:=O8.out.kept (Zu w8 (n+1) (.slice (some ⟨g8,0,none⟩) (k+1) f3)) (.inr (b9.out.not_row (by decide) O8.out).symm);unfold sortV at m ⊢;rw [zW,show List.map (fun p:Nat × ByteArray=>Value.int .i64 (yDb p.2)) (List.map (fun x:yO s=>x.1) [x])=[.int .i64 (yDb c)] by simp [HC.out]];exact m
  ·exact zY t7 (zY k6.out.size (ZT _ _ _).size)
 case done =>
  rintro D xs W hD o4 hI z;have C:=hI;obtain⟨_,_,_,_,_,_,_,k7,t8⟩:=C;obtain⟨a1,a2,c1,Q,hR⟩:=sgR_of hI o4;obtain⟨M,hM⟩:=nm (W.heap.size);obtain⟨cs,f5⟩:=nm (yJn s);rw [f5] at hR;have t9:cs.length≤2097152:=by
   have:=yAj s;have:cs.length=(yF s).length:=(by rw [←f5];unfold yJn;rw [zK]);omega
  have HR:=lh hR;have c0:=lh f5;have o5:=lh k7;have k8:=lh z;clear hI hR f5 k7 z hT g3 k1 k2 k3 kb hz;gi_wp2;refine wpIn_label ?_;gi_wp2;gi_loopw [2,3,8,9] (fun u2 u3 u8 u9 wr=>∃(i f:Nat) (G:List (Nat × Nat)),u8=.int .i64 (posI cs i)∧u9=.int .i64 i∧i≤cs.length∧cs.length≤i+f∧yDg cs cs.length 0 0=G++yDg cs f i (posI cs i) ∧
   wr.ownsRow M 3 1 u2 G.length (G.map fun p=>.int .i64 p.1)∧wr.ownsRow M 3 1 u3 G.length (G.map fun p=>.int .i64 (soI cs p.2))∧(u2.ownBlock=none∨u2.ownBlock≠u3.ownBlock)∧Below M W wr) (fun _ _ _ u9 _=>cs.length-(intOf u9).toNat)
  case atStart=>exact⟨0,cs.length,[],rfl,rfl,zd _,by omega,rfl,Zx _ _ _ _,Zx _ _ _ _,.inl rfl,Zc _ _⟩
  case round =>
   obtain⟨i,f,G,rfl,rfl,hi,hf,d9,e0,a9,h7,c3⟩:=hrel;have c4:=HR.out.below (hM▸c3);by_cases a4:i<cs.length
   ·obtain⟨G1,N,u0,u1,e1,e2,b1,b2,O⟩:=c4.2.2 (by omega);subst e1;subst e2;have f6:=lh c4;have o8:(i:Int)<(cs.length:Int):=(by omega);have cb:=c4.1.cell;have cc:wr.cell? ⟨G1,i,none⟩=some (.string (clI cs i)):=(by simp [World.cell?,b1,(O i a4).1]);have k9:=yMb cs i a4;have h8:=yMc cs (cs.length-(i+1)) (i+1) (by omega);rw [show i+1+(cs.length-(i+1))=cs.length by omega,←c0.out,posI_all,c0.out] at h8;have l0:IntKind.i64.wrap ((posI cs i:Int)+((clI cs i).size:Int))=(posI cs (i+1):Int):=(by rw [ZH];omega);have l1:IntKind.i64.wrap ((i:Int)+1)=((i+1:Nat):Int):=(by rw [ZH];omega);have f7:=lh e0;have f8:=lh a9;have c5:=lh c3;have h9:=lh d9;have l2:=lh h7;have u4:=lh h8;have l3:=lh k9;have l4:=lh (show N<M from by
     obtain⟨_,l5,_,_,_,o9,_,p0,_⟩:=HR.out.2.2 (by omega);cases o9;rw [←hM];exact (zH.1 p0).1)
    clear c4 e0 a9 c3 d9 h7 k9 O b1 b2 h8;gi_wp2;gi_loopw [2,3,8,9] (fun a2 a3 u8 u9 p1=>a2=u2∧a3=u3∧∃(j f':Nat),u8=.int .i64 (posI cs j)∧u9=.int .i64 j∧i+1≤j∧j≤cs.length∧cs.length≤j+f'∧yGk cs i cs.length (i+1) (posI cs (i+1))=yGk cs i f' j (posI cs j)∧Below wr wr p1) (fun _ _ _ u9 _=>cs.length-(intOf u9).toNat)
    case atStart=>exact⟨rfl,rfl,i+1,cs.length,rfl,rfl,zT _,by omega,by omega,rfl,Zc _ _⟩
    case round =>
     obtain⟨rfl,rfl,j,f',rfl,rfl,u5,p3,u6,f9,b0⟩:=hrel;by_cases e3:j<cs.length
     case' neg =>
      obtain⟨p4,l5,p5,p6,e1,e2,b1,b2,O⟩:=(f6.out.below b0).2.2 (by omega);cases e1;cases e2;have i0:=lh (f6.out.below b0).2.1.cell;have p7:=lh (f6.out.below b0).1.cell;have i1:Hid (wr.cell? ⟨N,i,none⟩=some (.int .i64 (soI cs i))):=lh (by simp [World.cell?,b2,(O i (by omega)).2]);have g0:=lh f9;have A:=lh b0;have d1:=p7.out;have p8:¬ (j:Int)<(cs.length:Int):=(by omega);clear f9 b0 O b1 b2 cc cb l1 l0;have q1:=yAd (row:=none) f7.out ⟨A.out.os,A.out.tape,A.out.output,A.out.size,fun k d _=>A.out.block k d⟩ (fun k e=>by cases e);have q2:=yAd (row:=none) f8.out ⟨A.out.os,A.out.tape,A.out.output,A.out.size,fun k d _=>A.out.block k d⟩ (fun k e=>by cases e);have p9:=c5.out.size;have qb:Below M W wr:=c5.out.trans (A.out.mono (by omega));have i2:M≤wr.heap.size:=(by have:=qb.size;omega);have H:Below wr wr (wr):=Zc _ _;have b6:wr.grownBy (wr) none:=⟨H.os,H.tape,H.output,H.size,fun k d _=>H.block k d⟩;replace q1:=yAd (row:=none) q1 b6 (fun k e=>by cases e);replace q2:=yAd (row:=none) q2 b6 (fun k e=>by cases e);have q0:G.length≤2097152:=by
       have m:=Zb List.length h9.out;have I:=yG3 cs cs.length 0 0;rw [zJ] at m;omega
      have a5:yGk cs i cs.length (i+1) (posI cs (i+1))=(j,posI cs j):=by
       rw [g0.out];cases f' with | zero=>rfl | succ g=>rw [yGk,Zf (fun h=>e3 h.1)]
      have e4:yDg cs f i (posI cs i)=(posI cs j,i)::yDg cs (f-1) j (posI cs j):=by
       obtain⟨g,rfl⟩:∃g,f=g+1:=⟨f-1,by omega⟩;rw [yDg,Zg a4,←l3.out,a5];rfl
      have d4:=lh e4;clear a5 e4;gi_upto_region 23 with fail;refine wpIn_wide.2 ?_;clear b6;have q3:=H.size;have e5:Below M wr wr:=H.mono i2;obtain⟨S,a0,U⟩:∃S:World→Prop,(∀w',S w'→Below M wr w')∧(∀w',Below M wr w'→S w'):=⟨fun w'=>Below M wr w',fun _ h=>h,fun _ h=>h⟩;have i4:N<M:=l4.out;have i5:n+1<M:=(by omega);have g7:∀p:WIn S,p.w.cell? ⟨n+1,0,none⟩=some (.slice (some ⟨N,0,none⟩) cs.length Q):=fun p=>((a0 _ p.h).cell (p:=⟨n+1,0,none⟩) i5).trans i0.out;have q4:∀p:WIn S,p.w.cell? ⟨N,i,none⟩=some (.int .i64 (soI cs i)):=fun p=>((a0 _ p.h).cell (p:=⟨N,i,none⟩) i4).trans i1.out;have J:=lh U;have g9:Nonempty (WIn S):=⟨⟨wr,U _ (Zc _ _)⟩⟩;have l6:=lh qb;have q5:(i:Int)<(cs.length:Int):=(by omega);have T:TwS M wr u2 u3 (G.map fun p=>Value.int .i64 p.1) (G.map fun p=>Value.int .i64 (soI cs p.2)) wr.drew:=⟨e5.drew,by show M≤wr.heap.size;omega,by rw [zK];exact q1,by rw [zK];exact q2,l2.out⟩;clear a0 U q1 q2 qb H e5;refine yn S (by kernel_rfl) ?_;generalize wr.drew=X0 at T ⊢;have i6:∀k,u2.ownBlock=some k→k<X0.heap.size:=fun k d=>(T.2.2.1.lt k d).2
     case' pos =>
      have e6:=f6.out.below b0;obtain⟨q,hq⟩:∃q,q+1=j:=⟨j-1,by omega⟩;obtain⟨p4,l5,p5,p6,e1,e2,b1,b2,O⟩:=e6.2.2 (by omega);cases e1;cases e2;have HQ:=lh hq;have d1:=e6.1.cell;have d2:=e6.2.1.cell;have kq:wr.cell? ⟨N,q,none⟩=some (.int .i64 (soI cs q)):=(by simp [World.cell?,b2,(O q (by omega)).2]);have kj:wr.cell? ⟨N,j,none⟩=some (.int .i64 (soI cs j)):=(by simp [World.cell?,b2,(O j e3).2]);have ki:wr.cell? ⟨N,i,none⟩=some (.int .i64 (soI cs i)):=(by simp [World.cell?,b2,(O i (by omega)).2]);have kc:wr.cell? ⟨G1,j,none⟩=some (.string (clI cs j)):=(by simp [World.cell?,b1,(O j e3).1]);have u7:IntKind.i64.wrap ((j:Int)-1)=(q:Int):=(by rw [ZH];omega);have v0:(q:Int)<(cs.length:Int):=(by omega);have p8:(j:Int)<(cs.length:Int):=(by omega);have v1:(i:Int)<(cs.length:Int):=(by omega);have i0:=lh d2;have i1:=lh ki;have q8:=lh (fun (k:Nat) (d:k<cs.length)=>(by simp [World.cell?,b2,(O k d).2]:wr.cell? ⟨N,k,none⟩=some (.int .i64 (soI cs k))));have v4:=lh e6;have g0:=lh f9;have A:=lh b0;clear e6 f9 b0 O b1 b2 cc cb l1 l0;gi_upto_region 15 with fail;refine wpIn_wide.2 ?_;go_quiet (fail);have q9:=lh (show j-1=q by omega);have v5:(j:Int)+1<9223372036854775807:=(by omega);have v6:IntKind.i64.wrap ((j:Int)+1)=((j+1:Nat):Int):=(by rw [ZH];omega);have l7:=lh (yMb cs j e3);gi_upto_region 16 with fail;refine wpIn_wide.2 ?_;obtain⟨p,hp⟩:=nm (((soI cs i==1)&&(soI cs j==1)));have HP:=lh hp;clear hp;go_cut [13] from 57 to 65 (fun v wx=>v=.bool p∧∃k,wx=wr.drewN k)
      case first =>
       obtain⟨x1,l8⟩:∃x,soI cs i=x:=⟨_,rfl⟩;have i7:=HP.out;rw [l8] at ki i7;have l9:=lh i7;clear l8 i7 HP;by_cases m:x1=1
       ·subst m;go_wp2;go_meet
        case rel=>exact⟨by rw [←l9.out];rfl,_,rfl⟩
       ·have V:(x1==1)=false:=zN.2 m;have HN:=lh m;clear m;go_wp2;go_meet
        case rel=>exact⟨by rw [←l9.out,zN.2 HN.out,Bool.false_and],_,rfl⟩
      case' rest =>
       obtain⟨rfl,k1,rfl⟩:=hcut;gi_upto_region 17 with fail;refine wpIn_wide.2 ?_;obtain⟨p2,m0⟩:=nm ((decide (3≤soI cs q)||decide (i<q)));have c6:=lh m0;clear m0;go_cut [73] from 66 to 73 (fun v wx=>v=.bool p2∧∃k,wx=wr.drewN k)
       case first =>
        by_cases m:3≤soI cs q
        ·have V:decide (3≤soI cs q)=true:=zQ m;have HN:=lh m;clear m;go_wp2;go_meet
         case rel=>exact⟨by rw [←c6.out,zQ HN.out,Bool.true_or],_,rfl⟩
        ·have V:decide (3≤soI cs q)=false:=zP m;have HN:=lh V;clear m;by_cases I:(i:Int)<(q:Int)
         ·have a6:decide ((i:Int)<(q:Int))=true:=zQ I;have HI:Hid (decide (i<q)=true):=lh (zQ (by omega));clear I;go_wp2;go_meet
          case rel=>exact⟨by rw [←c6.out,HI.out,Bool.or_true],_,rfl⟩
         ·have a6:decide ((i:Int)<(q:Int))=false:=zP I;have HI:Hid (decide (i<q)=false):=lh (zP (by omega));clear I;go_wp2;go_meet
          case rel=>exact⟨by rw [←c6.out,HI.out,HN.out,Bool.or_false],_,rfl⟩
       case' rest =>
        obtain⟨rfl,k2,rfl⟩:=hcut
        gi_upto_if 73 with fail
        refine wpIn_wide.2 ?_;go_cut [13] from 57 to 119 (fun v wx=>v=.bool (joinB cs i j)∧∃k,wx=wr.drewN k)
        case first =>
         have b3:Hid (joinB cs i j=(p||(p2&&(decide (3≤soI cs i)&&(decide (3≤soI cs j)||(decide (soI cs j<3)&&decide (3≤soI cs q)&&decide (j+1<cs.length)&&(yGm (clI cs j)==soI cs q)&&(soI cs (j+1)==soI cs q))))))):=lh (by
          unfold joinB;rw [q9.out,←HP.out,←c6.out];rfl)
         clear HP c6;cases p2 with
         | false =>
           go_wp2;go_meet
           case rel=>exact⟨by rw [b3.out,Bool.false_and,Bool.or_false],_,rfl⟩
         | true =>
           rw [Bool.true_and] at b3;obtain⟨sg,a5⟩:=nm ((decide (soI cs j<3)&&decide (3≤soI cs q)&&decide (j+1<cs.length)&&(yGm (clI cs j)==soI cs q)&&(soI cs (j+1)==soI cs q)));rw [a5] at b3;have b4:=lh a5;clear a5;go_upto_region 18 with fail;go_cut [14] from 74 to 104 (fun v wx=>v=.bool sg∧∃k,wx=wr.drewN k)
           case first =>
            by_cases m:soI cs j<3
            ·have V:decide (soI cs j<3)=true:=zQ m;have H1:=lh V;clear m;by_cases I:3≤soI cs q
             ·have a6:decide (3≤soI cs q)=true:=zQ I;have H2:=lh a6;clear I;by_cases h3:j+1<cs.length
              ·have r0:decide (((j+1:Nat):Int)<(cs.length:Int))=true:=zQ (by omega);have r8:decide ((j:Int)+1<(cs.length:Int))=true:=zQ (by omega);have H3:Hid (decide (j+1<cs.length)=true):=lh (zQ h3);have r9:wr.cell? ⟨N,j+1,none⟩=some (.int .i64 (soI cs (j+1))):=q8.out (j+1) h3;have v7:(j:Int)+1<(cs.length:Int):=(by omega);have v8:(0:Int)≤(j:Int)+1:=(by omega);have v9:((j:Int)+1).toNat=j+1:=(by omega);obtain⟨bt,m1⟩:∃b,yGm (clI cs j)=b:=⟨_,rfl⟩;have i8:=lh (fun W=>between_any (clI cs j) W);rw [m1] at b4 i8;obtain⟨sj,m2⟩:∃b,soI cs (j+1)=b:=⟨_,rfl⟩;rw [m2] at b4 r9;obtain⟨sq,j0⟩:∃b,soI cs q=b:=⟨_,rfl⟩;rw [j0] at b4;simp only [j0] at *;clear m1 m2 j0 h3;have w0:IntKind.i64.wrap ((j:Int)+1)=(j:Int)+1:=(by rw [ZH];omega);by_cases h4:bt=sq
               ·have j1:(bt==sq)=true:=ZD.2 h4;have H4:=lh j1;clear h4;go_wp2_with (go_at_call 198;refine (i8.out _).mono ?_;rintro e w9 ⟨rfl,rfl⟩);go_meet
                case rel=>exact⟨by rw [←b4.out,H1.out,H2.out,H3.out,H4.out];simp,_,rfl⟩
               ·have j1:(bt==sq)=false:=zN.2 h4;have H4:=lh j1;clear h4;go_wp2_with (go_at_call 198;refine (i8.out _).mono ?_;rintro e w9 ⟨rfl,rfl⟩);go_meet
                case rel=>exact⟨by rw [←b4.out,H4.out];simp,_,rfl⟩
              ·have r0:decide (((j+1:Nat):Int)<(cs.length:Int))=false:=zP (by omega);have r8:decide ((j:Int)+1<(cs.length:Int))=false:=zP (by omega);have H3:Hid (decide (j+1<cs.length)=false):=lh (zP h3);clear h3;go_wp2;go_meet
               case rel=>exact⟨by rw [←b4.out,H3.out];simp,_,rfl⟩
             ·have a6:decide (3≤soI cs q)=false:=zP I;have H2:=lh a6;clear I;go_wp2;go_meet
              case rel=>exact⟨by rw [←b4.out,H2.out];simp,_,rfl⟩
            ·have V:decide (soI cs j<3)=false:=zP m;have H1:=lh V;clear m;go_wp2;go_meet
             case rel=>exact⟨by rw [←b4.out,H1.out];simp,_,rfl⟩
           case rest =>
            obtain⟨rfl,k4,rfl⟩:=hcut;cases p with
            | true =>
              go_wp2;go_meet
              case rel=>exact⟨by rw [b3.out,Bool.true_or],_,rfl⟩
            | false =>
              rw [Bool.false_or] at b3;by_cases m:3≤soI cs i
              ·have V:decide (3≤soI cs i)=true:=zQ m;have H1:=lh V;clear m;by_cases I:3≤soI cs j
               ·have a6:decide (3≤soI cs j)=true:=zQ I;have H2:=lh a6;clear I;go_wp2;go_meet
                case rel=>exact⟨by rw [b3.out,H1.out,H2.out];simp,_,rfl⟩
               ·have a6:decide (3≤soI cs j)=false:=zP I;have H2:=lh a6;clear I;go_wp2;go_meet
                case rel=>exact⟨by rw [b3.out,H1.out,H2.out];simp,_,rfl⟩
              ·have V:decide (3≤soI cs i)=false:=zP m;have H1:=lh V;clear m;go_wp2;go_meet
               case rel=>exact⟨by rw [b3.out,H1.out];simp,_,rfl⟩
        case' rest =>
         obtain⟨rfl,k3,rfl⟩:=hcut;obtain⟨jb,j2⟩:=nm (joinB cs i j);rw [j2];have HJ:=lh j2;clear j2 HP c6;cases jb
         case true =>
          have w2:IntKind.i64.wrap ((posI cs j:Int)+((clI cs j).size:Int))=(posI cs (j+1):Int):=by
           have m:=l7.out;have I:=yMc cs (cs.length-(j+1)) (j+1) (by omega);rw [show j+1+(cs.length-(j+1))=cs.length by omega,←c0.out,posI_all,c0.out] at I;rw [ZH];omega
          gi_wp2;go_roundw
          case rel =>
           obtain⟨s0,rfl⟩:∃g,f'=g+1:=⟨f'-1,by omega⟩;exact⟨rfl,rfl,j+1,s0,rfl,by go_num,by omega,by omega,by omega,by rw [g0.out,yGk,Zg ⟨e3,HJ.out⟩,←l7.out],yI A.out _⟩
          case measure=>simp [intOf];omega
         case' false =>
          have q1:=yAd (row:=none) f7.out ⟨A.out.os,A.out.tape,A.out.output,A.out.size,fun k d _=>A.out.block k d⟩ (fun k e=>by cases e);have q2:=yAd (row:=none) f8.out ⟨A.out.os,A.out.tape,A.out.output,A.out.size,fun k d _=>A.out.block k d⟩ (fun k e=>by cases e);have p9:=c5.out.size;have qb:Below M W wr:=c5.out.trans (A.out.mono (by omega));have i2:M≤wr.heap.size:=(by have:=qb.size;omega);have H:Below wr wr (wr.drewN k3):=yI (Zc _ _) k3;have b6:wr.grownBy (wr.drewN k3) none:=⟨H.os,H.tape,H.output,H.size,fun k d _=>H.block k d⟩;replace q1:=yAd (row:=none) q1 b6 (fun k e=>by cases e);replace q2:=yAd (row:=none) q2 b6 (fun k e=>by cases e);have q0:G.length≤2097152:=by
           have m:=Zb List.length h9.out;have I:=yG3 cs cs.length 0 0;rw [zJ] at m;omega
          have a5:yGk cs i cs.length (i+1) (posI cs (i+1))=(j,posI cs j):=by
           rw [g0.out];cases f' with | zero=>rfl | succ g=>rw [yGk,Zf (fun h=>by rw [HJ.out] at h;exact qF h.2 (by decide))]
          have e4:yDg cs f i (posI cs i)=(posI cs j,i)::yDg cs (f-1) j (posI cs j):=by
           obtain⟨g,rfl⟩:∃g,f=g+1:=⟨f-1,by omega⟩;rw [yDg,Zg a4,←l3.out,a5];rfl
          have d4:=lh e4;clear a5 e4;gi_upto_region 21 with fail;refine wpIn_wide.2 ?_;generalize wr.drewN k3=X at H q1 q2 ⊢;clear b6;have q3:=H.size;have e5:Below M wr X:=H.mono i2;obtain⟨S,a0,U⟩:∃S:World→Prop,(∀w',S w'→Below M wr w')∧(∀w',Below M wr w'→S w'):=⟨fun w'=>Below M wr w',fun _ h=>h,fun _ h=>h⟩;have i4:N<M:=l4.out;have i5:n+1<M:=(by omega);have g7:∀p:WIn S,p.w.cell? ⟨n+1,0,none⟩=some (.slice (some ⟨N,0,none⟩) cs.length Q):=fun p=>((a0 _ p.h).cell (p:=⟨n+1,0,none⟩) i5).trans i0.out;have q4:∀p:WIn S,p.w.cell? ⟨N,i,none⟩=some (.int .i64 (soI cs i)):=fun p=>((a0 _ p.h).cell (p:=⟨N,i,none⟩) i4).trans i1.out;have J:=lh U;have g9:Nonempty (WIn S):=⟨⟨wr,U _ (Zc _ _)⟩⟩;have l6:=lh qb;have q5:(i:Int)<(cs.length:Int):=(by omega);have T:TwS M wr u2 u3 (G.map fun p=>Value.int .i64 p.1) (G.map fun p=>Value.int .i64 (soI cs p.2)) X.drew:=⟨e5.drew,by show M≤X.heap.size;omega,by rw [zK];exact q1,by rw [zK];exact q2,l2.out⟩;clear a0 U q1 q2 qb H e5;refine yn S (by kernel_rfl) ?_;generalize X.drew=X0 at T ⊢;have i6:∀k,u2.ownBlock=some k→k<X0.heap.size:=fun k d=>(T.2.2.1.lt k d).2
     all_goals
      refine yHi [0,1,4,5,6,7,8] [2,9] (fuel:=5) yC (by kernel_rfl) (J.out _ T.1) ?_;simp only [yS,zD,zE,zC,zB,zA];show wpQuiet _ _ _ _ [_,_,_,_,_,_,_] _
      repeat (go_big_quiet_step (fail))
      refine Zt ?_;intro k d;rcases zX.1 d with rfl | d
      case' inr =>
       obtain rfl:=zO.1 d;intro K z;have r:=lh z;clear z;simp only [zD,zE,zC,zB,zA];show wpList _ _ _ [_] _ _;go_wp2;have P:=T.alloc (.cells #[.int .i64 (soI cs i)] 3);have L:=Boxed.new X0 3 (.int .i64 (soI cs i));have s1:X0.heap.size≤X0.heap.size:=zT _;have c7:X0.heap.size≤(X0.alloc (.cells #[.int .i64 (soI cs i)] 3)).heap.size:=(by rw [zM];omega);refine r.out _ _ (J.out _ P.1) ?_;clear r;obtain⟨gq,e7⟩:∃g,X0.heap.size=g:=⟨_,rfl⟩;generalize X0.alloc _=Y1 at P L c7 ⊢;have m3:X0.heap.size≤gq:=(by omega);rw [e7] at L ⊢;refine yj 2 (fuel:=4) yC (by kernel_rfl) (J.out _ P.1) fun K r=>?_;go_wp2;have B:=P.alloc (.cells #[.int .i64 (posI cs j)] 3);have Z:=Boxed.new Y1 3 (.int .i64 (posI cs j));replace L:=L.alloc (.cells #[.int .i64 (posI cs j)] 3);have s2:X0.heap.size≤Y1.heap.size:=c7;have b7:X0.heap.size≤(Y1.alloc (.cells #[.int .i64 (posI cs j)] 3)).heap.size:=(by rw [zM];omega);refine r.out _ _ (J.out _ B.1) ?_;clear r;obtain⟨gp,j3⟩:∃g,Y1.heap.size=g:=⟨_,rfl⟩;generalize Y1.alloc _=Y2 at B Z L b7 ⊢;have s3:X0.heap.size≤gp:=(by omega);rw [j3] at Z ⊢;refine yj 3 (fuel:=3) yC (by kernel_rfl) (J.out _ B.1) fun K r=>?_;refine Zy _ rfl _ _ 93 rfl M 3 i3 (.int .i64 0) 1 8 Tryz.underlying93 c8 c9 d0 d3 rfl (by decide) _ _ _ rfl B.2.2.1 ⟨gp,0,none⟩ 1 1 [.int .i64 (posI cs j)] rfl rfl (yK4 Z) (by simp [Value.oneCell']) (by unfold maxLen;rw [zK];omega) (by rw [zK];omega) B.2.1 ?_;intro v2 Y3 e8 a7 _ e9;have T3:=B.app2 e8 a7 e9;replace L:=box_app L (fun k d e=>by have:=(i6 k d);omega) a7;have j4:X0.heap.size≤Y3.heap.size:=zY b7 a7.size;refine r.out _ _ (J.out _ T3.1) ?_;clear r e8 a7 e9;simp only [Act.put,zg,zh,zi]
      case' inl =>
       intro K z;have r:=lh z;clear z;simp only [zD,zE,zC,zB,zA];show wpList _ _ _ [_] _ _;go_wp2;have P:=T.alloc (.cells #[.int .i64 (posI cs j)] 3);have Z:=Boxed.new X0 3 (.int .i64 (posI cs j));have s1:X0.heap.size≤X0.heap.size:=zT _;have c7:X0.heap.size≤(X0.alloc (.cells #[.int .i64 (posI cs j)] 3)).heap.size:=(by rw [zM];omega);refine r.out _ _ (J.out _ P.1) ?_;clear r;obtain⟨gp,j3⟩:∃g,X0.heap.size=g:=⟨_,rfl⟩;generalize X0.alloc _=Y1 at P Z c7 ⊢;have s3:X0.heap.size≤gp:=(by omega);rw [j3] at Z ⊢;refine yHi [] [3,9] (fuel:=4) yC (by kernel_rfl) (J.out _ P.1) ?_;simp only [yS,zD,zE,zC,zB,zA];show wpQuiet _ _ _ _ [] _;refine Zt ?_;intro k d;rcases zX.1 d with rfl | d
       case' inr =>
        obtain rfl:=zO.1 d;intro K z;have r:=lh z;clear z;simp only [zD,zE,zC,zB,zA];show wpList _ _ _ [_] _ _;go_wp2;have B:=P.alloc (.cells #[.int .i64 (soI cs i)] 3);have L:=Boxed.new Y1 3 (.int .i64 (soI cs i));replace Z:=Z.alloc (.cells #[.int .i64 (soI cs i)] 3);have s2:X0.heap.size≤Y1.heap.size:=c7;have b7:X0.heap.size≤(Y1.alloc (.cells #[.int .i64 (soI cs i)] 3)).heap.size:=(by rw [zM];omega);refine r.out _ _ (J.out _ B.1) ?_;clear r;obtain⟨gq,e7⟩:∃g,Y1.heap.size=g:=⟨_,rfl⟩;generalize Y1.alloc _=Y2 at B L Z b7 ⊢;have m3:X0.heap.size≤gq:=(by omega);rw [e7] at L ⊢;refine yj 3 (fuel:=3) yC (by kernel_rfl) (J.out _ B.1) fun K r=>?_;refine Zy _ rfl _ _ 93 rfl M 3 i3 (.int .i64 0) 1 8 Tryz.underlying93 c8 c9 d0 d3 rfl (by decide) _ _ _ rfl B.2.2.1 ⟨gp,0,none⟩ 1 1 [.int .i64 (posI cs j)] rfl rfl (yK4 Z) (by simp [Value.oneCell']) (by unfold maxLen;rw [zK];omega) (by rw [zK];omega) B.2.1 ?_;intro v2 Y3 e8 a7 _ e9;have T3:=B.app2 e8 a7 e9;replace L:=box_app L (fun k d e=>by have:=(i6 k d);omega) a7;have j4:X0.heap.size≤Y3.heap.size:=zY b7 a7.size;refine r.out _ _ (J.out _ T3.1) ?_;clear r e8 a7 e9;simp only [Act.put,zg,zh,zi]
       case' inl =>
        intro K z;have r:=lh z;clear z;simp only [zD,zE,zC,zB,zA];show wpList _ _ _ [_] _ _;refine Zy _ rfl _ _ 93 rfl M 3 i3 (.int .i64 0) 1 8 Tryz.underlying93 c8 c9 d0 d3 rfl (by decide) _ _ _ rfl P.2.2.1 ⟨gp,0,none⟩ 1 1 [.int .i64 (posI cs j)] rfl rfl (yK4 Z) (by simp [Value.oneCell']) (by unfold maxLen;rw [zK];omega) (by rw [zK];omega) P.2.1 ?_;intro v2 Y2 a9 j5 _ m4;have B:=P.app2 a9 j5 m4;have b7:X0.heap.size≤Y2.heap.size:=zY c7 j5.size;refine r.out _ _ (J.out _ B.1) ?_;clear r a9 j5 m4;simp only [Act.put,zg,zh,zi];refine yj 9 (fuel:=3) yC (by kernel_rfl) (J.out _ B.1) fun K r=>?_;go_wp2;have T3:=B.alloc (.cells #[.int .i64 (soI cs i)] 3);have L:=Boxed.new Y2 3 (.int .i64 (soI cs i));have w3:X0.heap.size≤Y2.heap.size:=b7;have j4:X0.heap.size≤(Y2.alloc (.cells #[.int .i64 (soI cs i)] 3)).heap.size:=(by rw [zM];omega);refine r.out _ _ (J.out _ T3.1) ?_;clear r;obtain⟨gq,e7⟩:∃g,Y2.heap.size=g:=⟨_,rfl⟩;generalize Y2.alloc _=Y3 at T3 L j4 ⊢;have m3:X0.heap.size≤gq:=(by omega);rw [e7] at L ⊢
      all_goals
       refine yj 10 (fuel:=2) yC (by kernel_rfl) (J.out _ T3.1) fun K r=>?_;refine Zy _ rfl _ _ 93 rfl M 3 i3 (.int .i64 0) 1 8 Tryz.underlying93 c8 c9 d0 d3 rfl (by decide) _ _ _ rfl T3.2.2.2.1 ⟨gq,0,none⟩ 1 1 [.int .i64 (soI cs i)] rfl rfl (yK4 L) (by simp [Value.oneCell']) (by unfold maxLen;rw [zK];omega) (by rw [zK];omega) T3.2.1 ?_;intro v3 Y4 m5 m6 _ m7;have T4:=T3.app3 m5 m6 m7;refine r.out _ _ (J.out _ T4.1) ?_;clear r m5 m6 m7;simp only [Act.put,zg,zh,zi];refine yAi [11,12] yC (by kernel_rfl) (J.out _ T4.1) ?_;simp only [yS,zD,zE,zC,zB,zA];show wpQuiet _ _ _ _ [_,_] _
       repeat (go_big_quiet_step (fail))
       refine Zt ?_;have TT:=lh T4;have s4:=lh (l6.out.trans T4.1);simp only [NoPanic];gi_wp2;go_roundw
       case rel=>exact⟨j,f-1,G++[(posI cs j,i)],rfl,rfl,p3,by omega,by rw [h9.out,d4.out,zZ];rfl,by have h:=TT.out.2.2.1;rw [zJ,zK] at h;rw [zJ,zW];exact h,by have h:=TT.out.2.2.2.1;rw [zJ,zK] at h;rw [zJ,zW];exact h,TT.out.2.2.2.2,s4.out⟩
       case measure=>simp [intOf];omega
   ·have m8:yDg cs f i (posI cs i)=[]:=by
     cases f with
     | zero=>rfl
     | succ f=>rw [yDg,Zf a4]
    rw [m8,zq] at d9;have m9:segsI s=G:=(by unfold segsI;rw [c0.out];exact d9);have o8:¬ (i:Int)<(cs.length:Int):=(by omega);have cb:=c4.1.cell;obtain⟨ra,rc,rfl,_⟩:=yEe e0;obtain⟨s5,s6,rfl,_⟩:=yEe a9;have f7:=lh e0;have f8:=lh a9;have c5:=lh c3;have g1:=lh m9;have s7:D<M:=(by rw [←hM];exact (zH.1 k8.out).1);have g2:wr.heap[D]? = some (.deferred (some [])):=(c3.block D s7).trans k8.out;clear c4 m8 d9 e0 a9 h7 c3 m9 hf a4;gi_wp2;refine⟨by simp,.inl ⟨_,_,rfl,Zv g2,?_⟩⟩;have n0:(yBt s).length=G.length:=(by unfold yBt;rw [g1.out,zK]);refine⟨_,results_tmp2 rfl _ _ _,ra,rc,s5,s6,by rw [n0];rfl,?_,?_,?_⟩
    ·have he:List.map (Value.int .i64) ((yBt s).map fun e:Nat=>(e:Int))=G.map fun p=>.int .i64 p.1:=by
      unfold yBt;rw [g1.out,zx,zx];rfl
     unfold yG;rw [zK,n0,he,R];exact yq (ownsRow_putObj f7.out _ g2 rfl) (by omega)
    ·have s8:(yBy s).length=G.length:=(by unfold yBy;rw [g1.out,zK]);have he:List.map (Value.int .i64) (yBy s)=G.map fun p=>.int .i64 (soI cs p.2):=by
      unfold yBy;rw [g1.out,c0.out,zx];rfl
     unfold yG;rw [s8,he,R];exact yq (ownsRow_putObj f8.out _ g2 rfl) (by omega)
    ·rw [R];exact (o5.out.trans (c5.out.mono (by omega))).trans (JY (w:=w) (by omega) wr D _ _ (by omega) g2 rfl rfl)
 case stop =>
  rintro D c pre W hD _ h _;exact h.elim
theorem Lines_any (s:ByteArray) (w:World) :
 Calls Tryz.prog 20 #[s] w fun e w'=>e=.returned (.func (.func 56) #[] #[.pointer (some ⟨w,0,none⟩)])∧w'=w.alloc (.cells #[s] 9):=by
 have b:∀(a:Fn) (first cap:Array Value) (w:World),(Instr.makeFunc a first cap).run Tryz.prog w=.ok (.func a first cap) w:=fun _ _ _ _=>rfl;go_enter Tryz.func20,Tryz.ntmps20;go_wp2;go_ret;exact⟨rfl,rfl⟩
theorem yQv (s:ByteArray) (w:World) (z:Nat) (a:w.heap.size=z) :
 Calls Tryz.prog 20 #[s] w fun e w'=>e=.returned (.func (.func 56) #[] #[.pointer (some ⟨z,0,none⟩)])∧Boxed w' z 9 (.string s)∧Below w w w'∧w'.heap.size=z+1:=by
 refine (Lines_any s w).mono ?_;rintro e w' ⟨rfl,rfl⟩;subst a;exact⟨rfl,Boxed.new w _ _,(Zc _ _).alloc (zT _) _,zM _ _⟩
theorem yI6 {X:World} {b e k z:Nat} {v:Value} {xs:List Value} (h:X.ownsRow b e z v k xs):∃a cap,v=.slice a k cap∧True:=by
 rcases h.2 with ⟨c,h0⟩ | ⟨g,d,f,c,_⟩
 ·exact⟨none,0,by rw [c,h0],trivial⟩
 ·exact⟨_,_,c,trivial⟩
def yAy (s:St):Value:=.agg #[s.a,s.back,.int .i64 (-1)]
def encI (x:Nat × St):Array Value:=#[.int .i64 x.1,yAy x.2]
def yHf:Nat→List St→List (Nat × St)
 | _,[]=>[]
 | i,s::t=>(i,s)::yHf (i+1) t
theorem yK0 (L:List St):∀i,(yHf i L).map (·.2)=L:=by
 induction L with
 | nil=>intro i;rfl
 | cons s t ih=>intro i;rw [yHf,Zd,ih]
def shS (a:Nat) (s:St):St:={ s with a:=s.a+a }
theorem yIe (b c:Int) (d e f:Bool) (x:OneR):stK b c d e f x=(stopsI (layI x.line b c d e f x.r.a x.r.len x.r.wide) x.r.fin).map (shS x.at'):=rfl
def yPn (W:World) (G:Nat) (L:List St):Prop:=(∃o:Obj,W.heap[G]? = some o∧o.isCells=true)∧∀(i:Nat) (s:St),L[i]? = some s→W.cell? ⟨G,i*3,none⟩=some (.int .i64 s.a)∧W.cell? ⟨G,i*3+1,none⟩=some (.bool s.back)∧W.cell? ⟨G,i*3+2,none⟩=some (.int .i64 (-1))
theorem yBb {W a:World} {G i:Nat} (h:a.heap[G]? = W.heap[G]?):a.cell? ⟨G,i,none⟩=W.cell? ⟨G,i,none⟩:=by simp [World.cell?,h]
theorem yPn.same {W b:World} {G:Nat} {L:List St} (h:yPn W G L) (a:b.heap[G]? = W.heap[G]?):yPn b G L:=by
 obtain⟨⟨o,c,d⟩,e⟩:=h;refine⟨⟨o,a.trans c,d⟩,fun i s f=>?_⟩;rw [yBb a,yBb a,yBb a];exact e i s f
theorem yPn.keep {a:List Nat} {d:Nat} {W b:World} {G:Nat} {L:List St} (h:yPn W G L) (e:KpL a d W b) (f:G∈a):yPn b G L:=by
 have g:=h;obtain⟨⟨o,c,i⟩,_⟩:=g;exact h.same ((e.2 G f o c i).trans c.symm)
theorem yLc {w:World} {base n c:Nat} {a:Option Addr} {L:List St} (j:L.length=n) (d:yN caE 33 w base (.slice a n c) L) (f:L≠[]):∃G,a=some ⟨G,0,none⟩∧base≤G∧G<w.heap.size∧yPn w G L:=by
 subst j;obtain⟨s,k⟩:∃s,L[0]? = some s:=⟨_,zF (zj.2 f)⟩;obtain⟨G,e,l,m,_,_⟩:=d.at 0 s k;refine⟨G,e,l,m,?_,fun i x o=>?_⟩
 ·rcases d.2 with ⟨b,h0⟩ | ⟨g,u,y,b,_,q,_⟩
  ·exact qF (ZE.1 h0) f
  ·rw [e] at b;have:G=g:=by
    have:=Zb (fun v:Value=>match v with | .slice (some p) _ _=>p.block | _=>0) b;exact this
   subst this;exact⟨_,q,rfl⟩
 ·obtain⟨r,h,h0,b,t⟩:=yGc rfl d i x o;rw [e] at h;have:G=r:=by
   have:=Zb (fun v:Option Addr=>match v with | some p=>p.block | none=>0) h;exact this
  subst this;exact⟨h0,b,t⟩
def yF7 (W:World) (X:Nat) (i:Nat) (v:Value):Prop:=(∃o:Obj,W.heap[X]? = some o∧o.isCells=true)∧W.cell? ⟨X,i,none⟩=some v
theorem yF7.same {W a:World} {X i:Nat} {v:Value} (h:yF7 W X i v) (b:a.heap[X]? = W.heap[X]?):yF7 a X i v:=⟨by obtain⟨⟨o,c,d⟩,_⟩:=h;exact⟨o,b.trans c,d⟩,(yBb b).trans h.2⟩
theorem yF7.keep {a:List Nat} {d:Nat} {W b:World} {X i:Nat} {v:Value} (h:yF7 W X i v) (e:KpL a d W b) (f:X∈a):yF7 b X i v:=by
 have g:=h;obtain⟨⟨o,c,j⟩,_⟩:=g;exact h.same ((e.2 X f o c j).trans c.symm)
theorem all1_inC (n:Nat) (l E X G y b:Nat) (L:List St) (a:Option Addr) (cap:Nat) (c7:b≤2097152) (M:∀s∈L,s.a≤2097152) (c8:L.length≤8388608) (ha:L≠[]→a=some ⟨G,0,none⟩)
 (J N:List (Nat × St)→World→Prop) (W:World) (b0:y≤W.heap.size) (O:yAs W.heap.size 0 W.heap.size J)
 (P:∀pre x q,J pre q→pre++[x] <+: yHf 0 (L.map (shS b))→W.heap.size≤q.heap.size→YieldAt Fence.wide n Tryz.prog l (encI x) q fun e c=>KeepsFrom W.heap.size q c ∧
   ((e=.returned (.bool true)∧J (pre++[x]) c∧KpL [E,X,G] y q c)∨(e=.returned (.bool false)∧N (pre++[x]) c)))
 (z:Boxed W E 27 (.slice a L.length cap)) (Q:yF7 W X 5 (.int .i64 b)) (R:L≠[]→yPn W G L) (h0:J [] W) :
 CallsIn Fence.wide n Tryz.prog 162 #[.func (.yield l) #[] #[],.pointer (some ⟨E,0,none⟩),.pointer (some ⟨X,0,none⟩)] W fun e c=>(∃v,e=.returned v) ∧
  ((∃S:List (Nat × St),S=yHf 0 (L.map (shS b))∧J S c)∨(∃pre:List (Nat × St),pre <+: yHf 0 (L.map (shS b))∧N pre c)):=by
 have HY:=lh P;have HJ:=lh O;have b1:=lh M;obtain⟨m,A⟩:=nm (L.length);rw [A] at z;have b2:=z.cell;clear P O M;refine qG.2 ((qG (n:=4)).1 ?_);refine callsIn_of_wp Tryz.func162 rfl trivial ?_ rfl;simp only [Tryz.ntmps162,qW,zb,zn,Nat.reduceAdd,Nat.reduceSub,qX,qY,qZ,qd,zp,zo];gi_wp2;clear b2;gi_loopw [4,5,8] (fun _ _ u8 wr=>∃(i:Nat) (pre:List (Nat × St)),u8=.int .i64 i∧i≤m∧yHf 0 (L.map (shS b))=pre++yHf i ((L.drop i).map (shS b))∧pre.length=i∧J pre wr∧W.heap.size≤wr.heap.size∧Below y W wr∧yF7 wr X 5 (.int .i64 b)∧(L≠[]→yPn wr G L))
  (fun _ _ u8 _=>m-(intOf u8).toNat)
 case atStart=>exact⟨0,[],rfl,zd _,by rw [ZZ];rfl,rfl,h0,zT _,Zc _ _,Q,R⟩
 case round =>
  obtain⟨i,pre,rfl,hi,g,T,B,U,Y,a0,D⟩:=hrel;by_cases c9:i<m
  ·obtain⟨s,j⟩:∃s,L[i]? = some s:=⟨_,zF (by omega)⟩;have F:L≠[]:=fun h=>by rw [h] at j;cases j
   have b3:=ha F;subst b3;have a1:L.drop i=s::L.drop (i+1):=yAu j;rw [a1,Zd,yHf] at g;obtain⟨c0,c1,c2⟩:=(D F).2 i s j;have d0:=b1.out s (zS j);have r:=lh g;have HL:=lh T;have a2:=lh (D F);have t:=lh a0;have HB:=lh Y;have b4:=lh B;have HM:=lh A;have d1:(i:Int)<(m:Int):=(by omega);have d2:IntKind.i64.wrap ((i:Int)+1)=(i:Int)+1:=(by rw [ZH];omega);clear g T D a0 Y B a1 j z R Q h0;gi_upto_region 3 with fail;have u:=qal wr (.cells #[s.a,s.back,.int .i64 (-1)] 33);have k:=zL wr (.cells #[s.a,s.back,.int .i64 (-1)] 33);generalize wr.alloc _=Z at u k ⊢;obtain⟨C,hC⟩:=nm (wr.heap.size);rw [hC] at k ⊢;have a3:=t.out.same (u.block X (by obtain⟨⟨o,d,_⟩,_⟩:=t.out;exact (zH.1 d).1));have d3:X≠C:=(by obtain⟨⟨o,d,_⟩,_⟩:=t.out;have:=(zH.1 d).1;omega);obtain⟨z0,z1,z2⟩:=qc3 k;have zf:Z.frozen? ⟨C,0,none⟩=false:=fz k;have x5:=a3.2;have d4:IntKind.i64.wrap ((s.a:Int)+(b:Int))=(s.a:Int)+(b:Int):=(by rw [ZH];omega);clear c0 c1 c2;gi_upto_region 4 with fail;have f:Below wr wr (Z.setCell ⟨C,0,none⟩ (.int .i64 ((s.a:Int)+(b:Int)))):=u.setCell (p:=⟨C,0,none⟩) (by show wr.heap.size≤C;omega) _;have H:(Z.setCell ⟨C,0,none⟩ (.int .i64 ((s.a:Int)+(b:Int)))).heap[C]? = some (.cells #[.int .i64 ((s.a:Int)+(b:Int)),s.back,.int .i64 (-1)] 33 (0,0)):=yM (i:=0) k _;generalize Z.setCell _ _=V at f H ⊢;obtain⟨v0,v1,v2⟩:=qc3 H;have a4:=HJ.out.grow b4.out f;have a5:W.heap.size≤V.heap.size:=zY U f.size;have a6:=HB.out.trans (f.mono (zY b0 U));have a7:=t.out.same (f.block X (by obtain⟨⟨o,d,_⟩,_⟩:=t.out;exact (zH.1 d).1));have a8:=a2.out.same (f.block G (by obtain⟨⟨o,d,_⟩,_⟩:=a2.out;exact (zH.1 d).1));obtain⟨fn,d5,assign,body,I,hR⟩:=HY.out pre (i,shS b s) V a4 ⟨yHf (i+1) ((L.drop (i+1)).map (shS b)),by rw [r.out,zZ];rfl⟩ a5;have a9:encI (i,shS b s)=#[.int .i64 (i:Int),.agg #[.int .i64 ((s.a:Int)+(b:Int)),s.back,.int .i64 (-1)]]:=by
    unfold encI yAy shS;simp
   rw [a9] at I;have K:=lh hR;have b5:=lh a7;have b6:=lh a8;have b7:=lh a6;clear hR z0 z1 z2 zf x5 u k f H a3 a4 a6 a7 a8 a9;gi_wp2;refine (yF8 K.out none).mono ?_;rintro e' W3 ⟨b8,(⟨rfl,b9,w⟩ | ⟨rfl,c3⟩)⟩
   ·have c4:=b7.out.trans w.1;have c5:=b5.out.keep w (by simp);have c6:=b6.out.keep w (by simp);clear I K w v0 v1 v2;gi_wp2;go_roundw
    case rel=>exact⟨i+1,pre++[(i,shS b s)],by go_num,by omega,by rw [r.out,zZ];rfl,by rw [zJ,HL.out];rfl,b9,zY a5 b8.size,c4,c5,fun _=>c6⟩
    case measure=>simp [intOf];omega
   ·clear I K;gi_wp2;refine qC (results_none rfl _ _ _) rfl ?_;exact⟨⟨_,rfl⟩,.inr ⟨pre++[(i,shS b s)],⟨yHf (i+1) ((L.drop (i+1)).map (shS b)),by rw [r.out,zZ];rfl⟩,c3⟩⟩
  ·obtain rfl:i=m:=(by omega);rw [ql (by omega),List.map_nil,yHf,zq] at g;have r:=lh g;clear g A;gi_wp2
   go_end0
   exact⟨⟨_,rfl⟩,.inl ⟨pre,r.out.symm,B⟩⟩
theorem yNi (E X G e c:Nat) (L:List St) (a:Option Addr) (cap:Nat) (j:c≤2097152) (k:∀s∈L,s.a≤2097152) (m:L.length≤8388608) (p:L≠[]→a=some ⟨G,0,none⟩) (w:World) (q:e≤w.heap.size)
 (r:Boxed w E 27 (.slice a L.length cap)) (g:yF7 w X 5 (.int .i64 c)) (i:L≠[]→yPn w G L) :
 yF9 0 Tryz.prog 162 #[.pointer (some ⟨E,0,none⟩),.pointer (some ⟨X,0,none⟩)] encI (KpL [E,X,G] e) (fun xs=>xs=yHf 0 (L.map (shS c))) (fun pre=>pre <+: yHf 0 (L.map (shS c))) w:=fun n l J u W d x A y h0=>by
 have z:∀{b t:Nat} {v:Value},Boxed w b t v→Boxed W b t v:=fun h=>(d.block _ (zH.1 h).1).trans h;exact all1_inC n l E X G e c L a cap j k m p J u W (zY q d.size) x y (z r) (g.same (d.block X (by obtain⟨⟨o,f,_⟩,_⟩:=g;exact (zH.1 f).1)))
  (fun h=>(i h).same (d.block G (by obtain⟨⟨o,f,_⟩,_⟩:=i h;exact (zH.1 f).1))) h0
end
section
open Go.RowKit Go.Proofs Go.Shelf
section
variable {α:Type} {n m:Nat} {P:Program} {g:Operand} {ps:Array Tmp} {assign body:Code} {a:Act} {w:World}
theorem yEr {Q:Exit→Act→World→Prop} (h1:1≤n) {gf:Nat} {lb:Array Value} (hg:a.eval g=.func (.func gf) #[] lb) (c1:Fence.wide.fn gf) (eg:∀args w,(callFunc gf args).run P w=.ok (.enter gf args) w)
 {Z:α→Array Value} {F:World→World→Prop} {S Sp:List α→Prop} {w0:World} (c2:yF9 m P gf lb Z F S Sp w0) (a5:∀{A B C:World},F A B→F B C→F A C)
 (a6:∀(W:World) (l:Nat) (o O:Obj),w.heap.size≤l→W.heap[l]? = some o→o.isCells=false→o.isWalk=false→F W (W.putObj l O)) (c3:∀(W:World) (o:Obj),w.heap.size≤W.heap.size→F W (W.alloc o)) (a8:Below w0 w0 w) (c4:∀x,(Z x).size=ps.size)
 (I:List α→World→Prop) (G:Code→List α→World→Prop) (hI:yAs (w.heap.size+2) m w.heap.size I) (a0:∀c,yAs (w.heap.size+2) m w.heap.size (G c)) (h0:I [] w) (a₁:α→Nat→Act) (i:α→Obj)
 (c5:∀(l:Nat) (x:α) (W:World) (K:Act→World→Prop),K (a₁ x W.heap.size) (W.alloc (i x)) →
   assign.wpIn (Fence.wide.inRound l) (n-1) P (Exit.then K (fun _ _ _=>False)) { tmps:=(ps.zip (Z x)).foldl (fun t (p,v)=>t.setIfInBounds p v) a.tmps,defers:=[] } W)
 (a9:∀(l:Nat) (pre:List α) (x:α) (c:Nat) (W:World),I pre W→Sp (pre++[x])→w.heap.size+2+m≤c→W.heap[c]? = some (i x)→body.wpIn (Fence.wide.inRound l) (n-1) P (ownPostG w.heap.size F I G (pre++[x]) W) (a₁ x c) W)
 (b0:∀(D:Nat) (xs:List α) (W:World),w.heap.size≤D→S xs→I xs W→W.heap[D]? = some (.deferred (some []))→Q .normal { a with defers:={ target:=.collected D,args:=#[] }::a.defers } W)
 (b1:∀(D:Nat) (c:Code) (pre:List α) (W:World),w.heap.size≤D→Sp pre→G c pre W→W.heap[D]? = some (.deferred (some []))→c.wpIn Fence.wide n P Q { a with defers:={ target:=.collected D,args:=#[] }::a.defers } W) :
 (Code.rangeFunc g ps assign body).wpIn Fence.wide n P Q a w:=by
 refine wpIn_rangeFunc ?_;intro b c6;obtain⟨D,hD⟩:=nm (w.heap.size);have b2:=run_enterLoop_outer (P:=P) (w:=w) b a.tmps ps assign body;obtain⟨q,R⟩:=nm ((w.alloc (.deferred (some []))).alloc (.loop (yBp b a.tmps ps assign body D .ready none)));have d8:q.heap.size=D+2:=by rw [←R,zM,zM,hD]
 have c7:q.heap[D+1]? = some (.loop (yBp b a.tmps ps assign body D .ready none)):=by
  have h:=zL (w.alloc (.deferred (some []))) (.loop (yBp b a.tmps ps assign body D .ready none));rw [zM,hD,R] at h;exact h
 have c8:q.heap[D]? = some (.deferred (some [])):=by
  have h:=qA (w.alloc (.deferred (some []))) (.loop (yBp b a.tmps ps assign body D .ready none)) D (by rw [zM];omega);rw [R] at h;rw [h,←hD];exact zL w _
 have b3:Below w w q:=by rw [←R];exact ((Zc _ w).alloc (zT _) _).alloc (by rw [zM];omega) _
 have c9:I [] q:=hI.grow h0 b3;rw [hD] at b2 hI a0 a9 b0 b1 a6;refine⟨D+1,[{ target:=.collected D,args:=#[] }],q,{ target:=.fn (.func gf) lb,args:=#[.func (.yield (D+1)) #[] #[]] },q,gf,#[.func (.yield (D+1)) #[] #[]]++lb,q,b2.trans (by rw [←R];rfl),by simp only [resolve,hg];simp [go_sem],fun f' b4=>by simp [Target.leads] at b4;subst b4;exact c1,by simp [invoke,go_sem,eg],fun _=>h1,?_⟩;have b5:∀(J:List α→World→Prop),yAs (D+2) m D J→∀(st:LoopState) (pe:Option Code),yAs q.heap.size m q.heap.size (fun pre W=>J pre W∧W.heap[D+1]? = some (.loop (yBp b a.tmps ps assign body D st pe))∧W.heap[D]? = some (.deferred (some []))):=fun J hJ st pe s X Y row T a1 j=>by
  have u:∀k,k<D+2→∀o,X.heap[k]? = some o→Y.heap[k]? = some o:=fun k u o H=>(a1.block k (zH.1 H).1 (fun e=>by rcases j k e.symm with h | ⟨h,_⟩ <;> omega)).trans H;exact⟨hJ s X Y row T.1 a1 (fun r e=>(j r e).elim (fun h=>.inl (by omega)) (fun ⟨h,h2⟩=>.inr ⟨by omega,h2⟩)),u _ (by omega) _ T.2.1,u _ (by omega) _ T.2.2⟩
 refine (c2 (n-1) (D+1) (fun pre W=>I pre W∧W.heap[D+1]? = some (.loop (yBp b a.tmps ps assign body D .ready none))∧W.heap[D]? = some (.deferred (some [])))
  (fun pre W=>∃c,G c pre W∧W.heap[D+1]? = some (.loop (yBp b a.tmps ps assign body D .done (some c)))∧W.heap[D]? = some (.deferred (some []))) q (a8.trans (b3.mono a8.size)) (b5 I hI _ _)
  (fun s X Y row ⟨c,T⟩ a1 j=>⟨c,b5 (G c) (a0 c) _ _ s X Y row T a1 j⟩) ?_ ⟨c9,c7,c8⟩).mono ?_
 ·rintro pre x f ⟨d0,b6,d1⟩ d2 d3;have hy:=run_yield (P:=P) (args:=Z x) b6 (c4 x);refine⟨b,_,assign,body,hy,roundIn_of_wpIn c6 (c5 _ x f _ ?_)⟩;obtain⟨c,U⟩:=nm (f.heap.size);have a7:=qal f (i x);have b7:(f.alloc (i x)).heap[c]? = some (i x):=U▸zL f (i x);have M:I pre (f.alloc (i x)):=hI.grow d0 a7;have a2:∀k o,f.heap[k]? = some o→(f.alloc (i x)).heap[k]? = some o:=fun k o H=>(a7.block k (zH.1 H).1).trans H;have y:=a2 _ _ b6;have u:=a2 _ _ d1;have b8:F f (f.alloc (i x)):=c3 f (i x) (by omega);have b9:f.heap.size≤(f.alloc (i x)).heap.size:=a7.size;rw [U];rw [U] at d3 b9;generalize f.alloc _=W at b7 M y u b8 b9 a2 ⊢;refine⟨_,run_beginRound y rfl,?_⟩;have V:(W.putObj (D+1) (.loop (yBp b a.tmps ps assign body D .busy none))).heap[D+1]? = some (.loop (yBp b a.tmps ps assign body D .busy none)):=JG (zH.1 y).1;have c0:(W.putObj (D+1) (.loop (yBp b a.tmps ps assign body D .busy none))).heap[D]? = some (.deferred (some [])):=(qB (by omega)).trans u;have d4:(W.putObj (D+1) (.loop (yBp b a.tmps ps assign body D .busy none))).heap[c]? = some (i x):=(qB (by omega)).trans b7;have d5:=a6 W (D+1) _ (.loop (yBp b a.tmps ps assign body D .busy none)) (by omega) y rfl rfl;refine wpIn_mono (a9 _ pre x c _ (hI.put _ M y rfl (by omega)) d2 (by omega) d4) ?_;rintro e a3 z N;have a4:∀O,KeepsFrom D (W.putObj (D+1) (.loop (yBp b a.tmps ps assign body D .busy none))) z→KeepsFrom q.heap.size f (z.putObj (D+1) O):=fun O d =>
   ⟨by have h1:=(qE W (D+1) (.loop (yBp b a.tmps ps assign body D .busy none))).size;have h2:=(qE z (D+1) O).size;have h3:=d.size;omega,
     fun k o u H U=>(qB (by omega)).trans (d.same k o (by omega) ((qB (by omega)).trans (a2 k o H)) U)⟩
  have left:∀c,(∃v,(Instr.endRound (D+1) (some c)).run P z=.ok v (z.putObj (D+1) (.loop (yBp b a.tmps ps assign body D .done (some c))))∧v=.bool false)→KeepsFrom D (W.putObj (D+1) (.loop (yBp b a.tmps ps assign body D .busy none))) z→G c (pre++[x]) z →
   ∃c',G c' (pre++[x]) (z.putObj (D+1) (.loop (yBp b a.tmps ps assign body D .done (some c))))∧(z.putObj (D+1) (.loop (yBp b a.tmps ps assign body D .done (some c)))).heap[D+1]? = some (.loop (yBp b a.tmps ps assign body D .done (some c')))∧(z.putObj (D+1) (.loop (yBp b a.tmps ps assign body D .done (some c)))).heap[D]? = some (.deferred (some [])):=fun c _ d E=>by
   have L:=d.same _ _ (by omega) V rfl;exact⟨c,(a0 c).put _ E L rfl (by omega),JG (zH.1 L).1,(qB (by omega)).trans (d.same _ _ (zT _) c0 rfl)⟩
  cases e with
  | normal =>
    obtain⟨d,d6,E⟩:=N;have L:=d.same _ _ (by omega) V rfl;exact⟨_,_,run_endRound (P:=P) none L,a4 _ d,.inl ⟨rfl,⟨hI.put _ E L rfl (by omega),JG (zH.1 L).1,(qB (by omega)).trans (d.same _ _ (zT _) c0 rfl)⟩,a5 (a5 (a5 b8 d5) d6) (a6 _ _ _ _ (by omega) L rfl rfl)⟩⟩
  | ret =>
    obtain⟨d,E⟩:=N;have j:=run_endRound (P:=P) (some .ret) (d.same _ _ (by omega) V rfl);exact⟨_,_,j,a4 _ d,.inr ⟨rfl,left .ret ⟨_,j,rfl⟩ d E⟩⟩
  | exit id =>
    obtain⟨d,E⟩:=N;have j:=run_endRound (P:=P) (some (.exit id)) (d.same _ _ (by omega) V rfl);exact⟨_,_,j,a4 _ d,.inr ⟨rfl,left (.exit id) ⟨_,j,rfl⟩ d E⟩⟩
  | goto t =>
    obtain⟨d,E⟩:=N;have j:=run_endRound (P:=P) (some (.goto t)) (d.same _ _ (by omega) V rfl);exact⟨_,_,j,a4 _ d,.inr ⟨rfl,left (.goto t) ⟨_,j,rfl⟩ d E⟩⟩
  | panic ch=>exact N.elim
  | outgrown=>exact N.elim
 ·rintro e W2 ⟨⟨v,rfl⟩,(⟨xs,hS,M,y,u⟩ | ⟨pre,d7,c,M,y,u⟩)⟩
  ·exact⟨none,_,run_endLoop (P:=P) y (fun h=>by cases h),b0 _ xs _ (zT _) hS (hI.put _ M y rfl (by omega)) ((qB (by omega)).trans u)⟩
  ·exact⟨some c,_,run_endLoop (P:=P) y (fun h=>by cases h),b1 _ c pre _ (zT _) d7 ((a0 c).put _ M y rfl (by omega)) ((qB (by omega)).trans u)⟩
end
end
section
open Go.RowKit Go.Proofs Go.Shelf
attribute [local go_sem] qV
def yFa:Enc OneR:=⟨fun x=>[x.r.a,x.r.len,.int .u8 x.r.level,x.r.wide,.int .i8 x.r.fin,x.at',x.line],7,fun _=>rfl⟩
def yE9 (W:World) (base Pb:Nat) (T:ByteArray) (tab want:Int) (wideA join raw:Bool) (L:List OneR):Prop :=
 ∃pa cap,W.heap[Pb]? = some (.cells #[T,tab,wideA,.int .i8 want,join,raw,.slice pa L.length cap] 155 (0,0))∧yN yFa 152 W base (.slice pa L.length cap) L
theorem yE9.below {W a:World} {base b:Nat} {T:ByteArray} {c d:Int} {e f g:Bool} {L:List OneR} (h:yE9 W base b T c d e f g L) (i:Below W W a):yE9 a base b T c d e f g L:=by
 obtain⟨k,cap,j,l⟩:=h;exact⟨k,cap,(i.block _ (zH.1 j).1).trans j,l.keep i⟩
theorem yE9.lt {W:World} {base a:Nat} {T:ByteArray} {b c:Int} {d e f:Bool} {L:List OneR} (h:yE9 W base a T b c d e f L):a<W.heap.size:=by
 obtain⟨i,cap,g,_⟩:=h;exact (zH.1 g).1
theorem yE9.cells {W:World} {base b:Nat} {T:ByteArray} {e f:Int} {g i j:Bool} {L:List OneR} (h:yE9 W base b T e f g i j L) :
 ∃d cap,(W.cell? ⟨b,0,none⟩=some (.string T)∧W.cell? ⟨b,1,none⟩=some (.int .i64 e)∧W.cell? ⟨b,2,none⟩=some (.bool g)∧W.cell? ⟨b,3,none⟩=some (.int .i8 f)∧W.cell? ⟨b,4,none⟩=some (.bool i)∧W.cell? ⟨b,5,none⟩=some (.bool j)∧W.cell? ⟨b,6,none⟩=some (.slice d L.length cap)) ∧
   ∀(k:Nat) (x:OneR),L[k]? = some x→∃G,d=some ⟨G,0,none⟩∧W.cell? ⟨G,k*7,none⟩=some (.int .i64 x.r.a)∧W.cell? ⟨G,k*7+1,none⟩=some (.int .i64 x.r.len)∧W.cell? ⟨G,k*7+2,none⟩=some (.int .u8 x.r.level)∧W.cell? ⟨G,k*7+3,none⟩=some (.int .i64 x.r.wide) ∧
     W.cell? ⟨G,k*7+4,none⟩=some (.int .i8 x.r.fin)∧W.cell? ⟨G,k*7+5,none⟩=some (.int .i64 x.at')∧W.cell? ⟨G,k*7+6,none⟩=some (.string x.line):=by
 obtain⟨d,cap,l,m⟩:=h;refine⟨d,cap,⟨?_,?_,?_,?_,?_,?_,?_⟩,fun k x n=>?_⟩
 all_goals first | (simp [World.cell?,l];done) | skip
 obtain⟨G,o,_,_,c,_⟩:=m.at k x n;exact⟨G,o,c 0 _ rfl,c 1 _ rfl,c 2 _ rfl,c 3 _ rfl,c 4 _ rfl,c 5 _ rfl,c 6 _ rfl⟩
theorem yA6 {T:ByteArray} {x:OneR} (h:yBl T x):x.line.size≤T.size∧x.at'≤T.size∧x.at'+x.line.size≤T.size:=by
 obtain⟨⟨_,⟨k,a⟩,_⟩,_⟩:=h;have:x.at'+x.line.size≤T.size:=a.1;omega
def AllAt (W:World) (base E X:Nat) (at':Nat) (Q:List St):Prop :=
 ∃G cap,E≠X∧base≤E∧base≤X∧base≤G∧E<W.heap.size∧X<W.heap.size∧G<W.heap.size∧Boxed W E 27 (.slice (some ⟨G,0,none⟩) Q.length cap)∧yF7 W X 5 (.int .i64 at')∧yPn W G Q
theorem pall_any (T:ByteArray) (hs:T.size≤65536) (b6 P:Int) (b7 R U:Bool) (L:List OneR) (d5:L.length≤1048576) (k:Nat) (x:OneR) (hx:L[k]? = some x) (c6:yBl T x) (base Pb:Nat) (w:World) (hP:yE9 w base Pb T b6 P b7 R U L) (hT:T8 w) (hD:DB w) :
 Calls Tryz.prog 111 #[.pointer (some ⟨Pb,0,none⟩),k] w fun e w'=>∃E X,e=.returned (.func (.func 162) #[] #[.pointer (some ⟨E,0,none⟩),.pointer (some ⟨X,0,none⟩)]) ∧
  AllAt w' w.heap.size E X x.at' (stopsI (layI x.line b6 P b7 R U x.r.a x.r.len x.r.wide) x.r.fin)∧Below w w w':=by
 have e4:∀(fn:Fn) (first cap:Array Value) (w:World),(Instr.makeFunc fn first cap).run Tryz.prog w=.ok (.func fn first cap) w:=fun _ _ _ _=>rfl;have d6:=yA6 c6;obtain⟨r,A,t⟩:=x;obtain⟨u,y,I,C,fin⟩:=r;dsimp only at d6 ⊢;have c7:t.size≤2097152:=by omega
 obtain⟨Q,j,nc,pf,hf,eQ,V,ec,d7,d8,f1,f2,f3,F4,F5,F6,F7,g1,g2,g3,g4⟩:=yA3 t c7 b6 P b7 R U u y C fin;have c8:=yK3 t P R U u y;have N:=lh (fun (W:World) (h:Below w w W)=>Stops_any t c7 u y I C fin b6 P b7 R U W (hT.below rfl h) (hD.below h) c8 g1 g2 g3);unfold yDq at N;rw [eQ,V] at N;rw [eQ];have c9:Q≠[]:=fun e=>by rw [e] at V;simp at V;omega
 have b8:=lh V;obtain⟨pa,cap,⟨_,p1,p2,p3,p4,p5,p6⟩,d1⟩:=hP.cells;obtain⟨G0,d9,x0,x1,x2,x3,x4,x5,x6⟩:=d1 k _ hx;subst d9;have e0:(k:Int)<(L.length:Int):=by have:=(zG.1 hx).1;omega
 obtain⟨n,hn⟩:=nm (L.length);rw [hn] at p6 e0 d5;have e1:=hP.lt;have HQ:=lh c9;clear d1 hP hT hD c8 g1 g2 g3 g4 eQ ec d7 d8 F4 F5 F6 F7 f1 f2 f3 V c6 hx hn c9;dsimp only at x0 x1 x2 x3 x4 x5 x6;go_enter Tryz.func111,Tryz.ntmps111;go_upto_region 2 with fail;have b9:=qal w (.cells #[u,y,.int .u8 I,C,.int .i8 fin,A,t] 152);have l:=zL w (.cells #[u,y,.int .u8 I,C,.int .i8 fin,A,t] 152);have d2:=zM w (.cells #[u,y,.int .u8 I,C,.int .i8 fin,A,t] 152);generalize w.alloc _=W1 at b9 l d2 ⊢;obtain⟨B,hB⟩:=nm (w.heap.size);rw [hB] at l d2 e1 ⊢;have D:=lh b9;have d3:=lh l;obtain⟨S,c1,c2⟩:∃S:World→Prop,(∀W,S W→Below W1 W1 W)∧(∀W,Below W1 W1 W→S W):=⟨fun W=>Below W1 W1 W,fun _ h=>h,fun _ h=>h⟩;have F:∀(i:Nat) (v:Value),W1.cell? ⟨B,i,none⟩=some v→∀p:WIn S,p.w.cell? ⟨B,i,none⟩=some v:=fun i v h p=>yB (c1 _ p.h) (by omega) h;have kp:∀(i:Nat) (v:Value),w.cell? ⟨Pb,i,none⟩=some v→∀p:WIn S,p.w.cell? ⟨Pb,i,none⟩=some v:=fun i v h p=>yB (c1 _ p.h) (by omega) (yB b9 (by omega) h);have a0:=F 0 _ (by simp [World.cell?,l];rfl);have a1:=F 1 _ (by simp [World.cell?,l];rfl);have a2:=F 2 _ (by simp [World.cell?,l];rfl);have a3:=F 3 _ (by simp [World.cell?,l];rfl);have a4:=F 4 _ (by simp [World.cell?,l];rfl);have a5:=F 5 _ (by simp [World.cell?,l];rfl);have a6:=F 6 _ (by simp [World.cell?,l];rfl);have b1:=kp 1 _ p1;have b2:=kp 2 _ p2;have b3:=kp 3 _ p3;have b4:=kp 4 _ p4;have b5:=kp 5 _ p5;have f:=lh c2;have e5:Nonempty (WIn S):=⟨⟨W1,c2 _ (Zc _ _)⟩⟩;clear F kp l b9 p1 p2 p3 p4 p5 p6 x0 x1 x2 x3 x4 x5 x6 c1 c2;refine yn S (by kernel_rfl) ?_;have z:Below W1 W1 W1.drew:=(Zc _ _).drew;have e2:W1.drew.heap.size=W1.heap.size:=rfl;generalize W1.drew=X0 at z e2 ⊢;refine yHi [0,1,2,3,4,5,6,7] [8,9] (fuel:=2) yC (by kernel_rfl) (f.out _ z) ?_;simp only [yS,zD,zE,zC,zB,zA];show wpQuiet _ _ _ _ [_,_,_,_,_,_,_,_] _
 repeat (go_big_quiet_step (fail))
 refine Zt ?_;intro k hk;rcases zX.1 hk with rfl | hk
 ·intro K Y;have b:=lh Y;clear Y;have Z:=lh (N.out X0 (D.out.trans (z.mono D.out.size)));simp only [zD,zE,zC,zB,zA];show wpList _ _ _ [_] _ _;go_wp2_with (go_at_call 11;refine Z.out.mono ?_;rintro e m ⟨qa,c,rfl,a7,O⟩);have o:=z.trans (O.mono z.size);refine b.out _ _ (f.out _ o) ?_;clear b;obtain⟨G,eG,gb,gl,a8⟩:=yLc b8.out a7 HQ.out;subst eG;refine yj 9 (fuel:=1) yC (by kernel_rfl) (f.out _ o) fun K b=>?_;go_wp2;have H:=qal m (.cells #[.slice none 0 0] 27);have q:=zL m (.cells #[.slice none 0 0] 27);have g:=o.trans (H.mono o.size);refine b.out _ _ (f.out _ g) ?_;clear b;obtain⟨E,hE⟩:=nm (m.heap.size);have c3:=a8.same (H.block G gl);have a9:=zM m (.cells #[.slice none 0 0] 27);generalize m.alloc _=w4 at H q g c3 a9 ⊢;have e3:=o.size;have d4:=z.size;rw [hE] at q gl a9 e3 ⊢;have d0:=qc1 q;have df:w4.frozen? ⟨E,0,none⟩=false:=fz q;refine yj 10 (fuel:=0) yC (by kernel_rfl) (f.out _ g) fun K b=>?_;go_wp2;have d:=g.setCell (p:=⟨E,0,none⟩) (by show W1.heap.size≤E;omega) (.slice (some ⟨G,0,none⟩) j c);have s:Boxed (w4.setCell ⟨E,0,none⟩ (.slice (some ⟨G,0,none⟩) j c)) E 27 (.slice (some ⟨G,0,none⟩) j c):=yM (i:=0) q _;have J:=c3.same (Zu w4 E (.slice (some ⟨G,0,none⟩) j c) |>.block G (by omega) (fun e=>by cases e;omega));have c4:=d.size;refine b.out _ _ (f.out _ d) ?_;clear b;generalize w4.setCell _ _=w5 at d s J c4 ⊢;refine yAi [] yC (by kernel_rfl) (f.out _ d) ?_;simp only [yS,zE];refine Zt ?_;have M:w5.heap[B]? = some (.cells #[u,y,.int .u8 I,C,.int .i8 fin,A,t] 152 (0,0)):=(d.block B (by omega)).trans d3.out;have b0:AllAt w5 B E B A Q:=⟨G,c,by omega,by omega,zT _,by omega,Boxed.lt s,by omega,by have:=Boxed.lt s;omega,b8.out.symm▸s,⟨⟨_,M,rfl⟩,by simp [World.cell?,M]⟩,J⟩;have HF:=lh b0;have c5:=lh (D.out.trans (d.mono D.out.size));simp only [NoPanic];clear b0 d s J M g q c3 H a8 a7 O o N Z d0 df;go_wp2;go_ret;exact⟨_,B,rfl,(by rw [hB];exact HF.out),c5.out⟩
 ·obtain rfl:=zO.1 hk;intro K Y;have b:=lh Y;clear Y;simp only [zD,zE,zC,zB,zA];show wpList _ _ _ [_] _ _;go_wp2;have H:=qal X0 (.cells #[.slice none 0 0] 27);have q:=zL X0 (.cells #[.slice none 0 0] 27);have a9:=zM X0 (.cells #[.slice none 0 0] 27);have g:=z.trans (H.mono z.size);refine b.out _ _ (f.out _ g) ?_;clear b;obtain⟨E,hE⟩:=nm (X0.heap.size);generalize X0.alloc _=w4 at H q g a9 ⊢;have d4:=z.size;rw [hE] at q a9 d4
  try rw [hE]
  obtain rfl:E=B+1:=(by omega);have Z:=lh (N.out w4 (D.out.trans (g.mono D.out.size)));refine yj 8 (fuel:=1) yC (by kernel_rfl) (f.out _ g) fun K b=>?_;go_wp2_with (go_at_call 11;refine Z.out.mono ?_;rintro e m ⟨qa,c,rfl,a7,O⟩);have o:=g.trans (O.mono g.size);refine b.out _ _ (f.out _ o) ?_;clear b;obtain⟨G,eG,gb,gl,a8⟩:=yLc b8.out a7 HQ.out;subst eG;have c0:Boxed m (B+1) 27 (.slice none 0 0):=(O.block (B+1) (by omega)).trans q;have d0:=c0.cell;have df:=c0.frozen;refine yj 10 (fuel:=0) yC (by kernel_rfl) (f.out _ o) fun K b=>?_;go_wp2;have d:=o.setCell (p:=⟨B+1,0,none⟩) (by show W1.heap.size≤B+1;omega) (.slice (some ⟨G,0,none⟩) j c);have s:Boxed (m.setCell ⟨B+1,0,none⟩ (.slice (some ⟨G,0,none⟩) j c)) (B+1) 27 (.slice (some ⟨G,0,none⟩) j c):=yM (i:=0) c0 _;have J:=a8.same (Zu m (B+1) (.slice (some ⟨G,0,none⟩) j c) |>.block G gl (fun e=>by cases e;omega));have c4:=(Zu m (B+1) (.slice (some ⟨G,0,none⟩) j c)).size;refine b.out _ _ (f.out _ d) ?_;clear b;generalize m.setCell _ _=w5 at d s J c4 ⊢;refine yAi [] yC (by kernel_rfl) (f.out _ d) ?_;simp only [yS,zE];refine Zt ?_;have M:w5.heap[B]? = some (.cells #[u,y,.int .u8 I,C,.int .i8 fin,A,t] 152 (0,0)):=(d.block B (by omega)).trans d3.out;have b0:AllAt w5 B (B+1) B A Q:=⟨G,c,by omega,by omega,zT _,by omega,Boxed.lt s,by have:=Boxed.lt s;omega,by omega,b8.out.symm▸s,⟨⟨_,M,rfl⟩,by simp [World.cell?,M]⟩,J⟩;have HF:=lh b0;have c5:=lh (D.out.trans (d.mono D.out.size));simp only [NoPanic];clear b0 d s J M g q c0 H a8 a7 O o N Z d0 df;go_wp2;go_ret;exact⟨_,B,rfl,(by rw [hB];exact HF.out),c5.out⟩
theorem Tryz.info_one:(Tryz.prog.info? 152).map (fun i=>(i.zero,i.size,i.bytes))=some (some (.agg #[.int .i64 0,.int .i64 0,.int .u8 0,.int .i64 0,.int .i8 0,.int .i64 0,.string ⟨#[]⟩]),7,64):=by kernel_rfl
def yi (bs:List Nat) (V W:World):Prop:=∀b∈bs,W.heap[b]? = V.heap[b]?
theorem yi.below {a:List Nat} {V W c:World} (h:yi a V W) (e:Below W W c) (f:∀b∈a,b<W.heap.size):yi a V c:=fun b d=>(e.block b (f b d)).trans (h b d)
theorem yi.grown {a:List Nat} {V W d:World} {row:Option Nat} (h:yi a V W) (f:W.grownBy d row) (e:∀b∈a,b<W.heap.size∧some b≠row):yi a V d:=fun b c=>(f.block b (e b c).1 (e b c).2).trans (h b c)
def lyP (z:Nat) (b t:Nat):Prop:=b<z∨t=152
def PgV (X:World) (z Pb:Nat) (T:ByteArray) (tab want:Int) (wideA join raw:Bool) (out:List OneR):Prop :=
 ∃v,X.heap[Pb]? = some (.cells #[T,tab,wideA,.int .i8 want,join,raw,v] 155 (0,0))∧X.ownsRow (z+5) 152 7 v out.length (out.flatMap yFa.enc)
def LyB (B z:Nat) (T:ByteArray) (wd tab want:Int) (wideA join raw:Bool) (W0:World) (out:List OneR) (X:World):Prop :=
 PgV X z (B+3) T tab want wideA join raw out∧Boxed X B 9 (.string T)∧Boxed X (B+1) 3 (.int .i64 wd)∧X.heap[B+2]? = some (.cells #[tab,wideA,.int .i8 want,join,raw] 26 (0,0)) ∧
  Boxed X (B+4) 145 (.pointer (some ⟨B+3,0,none⟩))∧Below B W0 X
def LyS (B z:Nat) (T:ByteArray) (wd tab want:Int) (wideA join raw:Bool) (W0 X0:World) (out:List OneR) (X:World):Prop :=
 LyB B z T wd tab want wideA join raw W0 out X∧(z+5≤X0.heap.size→z+5≤X.heap.size)∧KeepsFrom (z+1) X0 X∧KpX (lyP z) B X0 X
section
variable {B z:Nat} {T:ByteArray} {wd tab want:Int} {wideA join raw:Bool} {W0 X0 X X':World} {out:List OneR}
theorem LyB.start (h:LyB B z T wd tab want wideA join raw W0 out X):LyS B z T wd tab want wideA join raw W0 X out X :=
 ⟨h,fun h=>h,KeepsFrom.refl _ _,Zc _ _,fun b cs t f _ a=>a⟩
theorem LyS.and {a:List OneR} (h:LyS B z T wd tab want wideA join raw W0 X0 out X) (k:LyS B z T wd tab want wideA join raw W0 X a X'):LyS B z T wd tab want wideA join raw W0 X0 a X' :=
 ⟨k.1,fun h0=>k.2.1 (h.2.1 h0),h.2.2.1.trans k.2.2.1,h.2.2.2.trans k.2.2.2⟩
theorem LyB.below (q:B+4<z) (r:z<X.heap.size) (h:LyB B z T wd tab want wideA join raw W0 out X) (a:Below X X X'):LyB B z T wd tab want wideA join raw W0 out X':=by
 obtain⟨⟨v,d,f⟩,g,i,j,l,m⟩:=h;have c:∀{b:Nat} {o:Obj},X.heap[b]? = some o→X'.heap[b]? = some o:=fun h=>(a.block _ (zH.1 h).1).trans h;have n:X.grownBy X' none:=⟨a.os,a.tape,a.output,a.size,fun k p _=>a.block k p⟩;exact⟨⟨v,c d,yAd f n (fun k e=>by cases e)⟩,c g,c i,c j,c l,m.trans (a.mono (by omega))⟩
theorem LyS.below (c:B+4<z) (d:z<X.heap.size) (h:LyS B z T wd tab want wideA join raw W0 X0 out X) (a:Below X X X'):LyS B z T wd tab want wideA join raw W0 X0 out X':=by
 have e:∀{b:Nat} {o:Obj},X.heap[b]? = some o→X'.heap[b]? = some o:=fun h=>(a.block _ (zH.1 h).1).trans h;exact⟨h.1.below c d a,fun h0=>zY (h.2.1 h0) a.size,h.2.2.1.trans ((yR a).from _),h.2.2.2.trans ⟨a.mono (by omega),fun b cs t f _ g=>e g⟩⟩
theorem yIw {b e n k:Nat} {v:Value} {xs:List Value} (h:X.ownsRow b e n v k xs):∀j o,v.ownBlock=some j→X.heap[j]? = some o→o.isCells=true∧∃cs f,o=.cells cs e f:=fun j o a d=>by
 rcases h.2 with ⟨c,_⟩ | ⟨g,l,m,c,_,i,_⟩
 ·rw [c] at a;cases a
 ·rw [c] at a;cases a;rw [i] at d;cases d;exact⟨rfl,_,_,rfl⟩
theorem LyS.grown {v:Value} (G:B+4<z) (h:LyS B z T wd tab want wideA join raw W0 X0 out X) (q:X.heap[B+3]? = some (.cells #[T,tab,wideA,.int .i8 want,join,raw,v] 155 (0,0)))
 (a:X.ownsRow (z+5) 152 7 v out.length (out.flatMap yFa.enc)) (g:X.grownBy X' v.ownBlock) :
 X'.heap[B+3]? = some (.cells #[T,tab,wideA,.int .i8 want,join,raw,v] 155 (0,0))∧Boxed X' B 9 (.string T)∧Boxed X' (B+1) 3 (.int .i64 wd)∧X'.heap[B+2]? = some (.cells #[tab,wideA,.int .i8 want,join,raw] 26 (0,0)) ∧
  Boxed X' (B+4) 145 (.pointer (some ⟨B+3,0,none⟩))∧Below B W0 X'∧(z+5≤X0.heap.size→z+5≤X'.heap.size)∧KeepsFrom (z+1) X0 X'∧KpX (lyP z) B X0 X':=by
 obtain⟨⟨_,m,r,s,u,w⟩,x,y,A⟩:=h;have n:=a.lt;have c:∀{b:Nat} {o:Obj},some b≠v.ownBlock→X.heap[b]? = some o→X'.heap[b]? = some o:=fun i a=>(g.block _ (zH.1 a).1 i).trans a;have d:∀{b:Nat},b<z→some b≠v.ownBlock:=fun i e=>by have:=n _ e.symm;omega
 have p:Below B X X':=(Zc B X).grown g (by have:=(zH.1 m).1;omega) (fun k C=>by have:=n k C;omega);have D:KeepsOthers X X':=qQ g (fun j o E l=>(yIw a j o E l).1);refine⟨c (d (by omega)) q,c (d (by omega)) m,c (d (by omega)) r,c (d (by omega)) s,c (d (by omega)) u,w.trans p,fun h=>zY (x h) g.size,y.trans (D.from _),A.trans ⟨p,fun b cs t f i l=>c (fun e=>?_) l⟩⟩;obtain⟨_,H,I,F⟩:=yIw a b _ e.symm l;cases F;exact i (.inr rfl)
theorem LyS.more {v a:Value} {x:OneR} (m:B+4<z) (h:LyS B z T wd tab want wideA join raw W0 X0 out X) (n:X.heap[B+3]? = some (.cells #[T,tab,wideA,.int .i8 want,join,raw,v] 155 (0,0)))
 (d:X.ownsRow (z+5) 152 7 v out.length (out.flatMap yFa.enc)) (q:X.grownBy X' v.ownBlock)
 (j:X'.ownsRow (z+5) 152 7 a (out.length+1) (out.flatMap yFa.enc++yFa.enc x)):LyS B z T wd tab want wideA join raw W0 X0 (out++[x]) (X'.setCell ⟨B+3,6,none⟩ a):=by
 obtain⟨r,s,u,w,y,A,C,D,E⟩:=h.grown m n d q;have k:=yF2 X' (B+3) 6 a;have c:∀{b:Nat} {o:Obj},b≠B+3→X'.heap[b]? = some o→(X'.setCell ⟨B+3,6,none⟩ a).heap[b]? = some o:=fun g d=>(k.block _ (zH.1 d).1 (fun e=>by cases e;exact g rfl)).trans d;have F:=j.lt;have G:some (B+3)≠a.ownBlock:=fun e=>by have:=F _ e.symm;omega
 have l:Below B X' (X'.setCell ⟨B+3,6,none⟩ a):=(Zc _ _).setCell (p:=⟨B+3,6,none⟩) (by show B≤B+3;omega) _;refine⟨⟨⟨a,yM (i:=6) r a,?_⟩,c (by omega) s,c (by omega) u,c (by omega) w,c (by omega) y,A.trans l⟩,fun h=>zY (C h) (ZT _ _ _).size,D.trans ((ZT _ _ _).from _),E.trans ⟨l,fun b cs t f g H=>c (fun e=>g (.inl (by omega))) H⟩⟩;have:=j.kept k (.inr G.symm);rw [zJ,zU,zV];exact this
theorem LyS.last {G cap:Nat} {x y:OneR} {i:Nat} (c:B+4<z) (h:LyS B z T wd tab want wideA join raw W0 X0 out X) (d:X.heap[B+3]? = some (.cells #[T,tab,wideA,.int .i8 want,join,raw,.slice (some ⟨G,0,none⟩) out.length cap] 155 (0,0)))
 (a:yN yFa 152 X (z+5) (.slice (some ⟨G,0,none⟩) out.length cap) out) (e:out[i]? = some x) (f:yFa.enc y=(yFa.enc x).set 4 (.int .i8 3)) :
 LyS B z T wd tab want wideA join raw W0 X0 (out.set i y) (X.setCell ⟨G,i*7+4,none⟩ (.int .i8 3)):=by
 have g:=yF2 X G (i*7+4) (.int .i8 3);obtain⟨j,k,l,m,n,o,p,q,r⟩:=h.grown (v:=.slice (some ⟨G,0,none⟩) out.length cap) c d a g;have b:=yN.set a i x y e 4 (.int .i8 3) (by show 4<7;omega) f;rw [ZQ] at b;refine⟨⟨⟨_,j,?_⟩,k,l,m,n,o⟩,p,q,r⟩;have s:(X.setCell ⟨G,i*7+4,none⟩ (.int .i8 3)).ownsRow (z+5) 152 7 (.slice (some ⟨G,0,none⟩) out.length cap) (out.set i y).length ((out.set i y).flatMap yFa.enc):=b;exact s
theorem LyB.stays (x:B+4<z) (l:B≤W0.heap.size) (h:LyB B z T wd tab want wideA join raw W0 out X) {row:Option Nat} (c:X.grownBy X' row)
 (d:∀r,row=some r→(z+1+2≤r∧r<z+1+2+2)∨(z+1≤r∧∃o:Obj,X.heap[r]? = some o∧o.isCells=false)):LyB B z T wd tab want wideA join raw W0 out X':=by
 obtain⟨⟨v,m,i⟩,n,p,q,s,j⟩:=h;have a:∀k,k<z→∀o,X.heap[k]? = some o→X'.heap[k]? = some o:=fun k a o b=>(c.block k (zH.1 b).1 (fun e=>by rcases d k e.symm with h | ⟨h,_⟩ <;> omega)).trans b;have t:v.ownBlock=none∨v.ownBlock≠row:=by
  rcases i.2 with ⟨f,_⟩ | ⟨g,y,A,f,C,u,_⟩
  ·exact .inl (by rw [f];rfl)
  ·refine .inr (fun e=>?_);rw [f] at e;rcases d g e.symm with h | ⟨_,o,b,w⟩
   ·omega
   ·rw [u] at b;cases b;cases w
 exact⟨⟨v,a _ (by omega) _ m,i.kept c t⟩,a _ (by omega) _ n,a _ (by omega) _ p,a _ (by omega) _ q,a _ (by omega) _ s,j.grown c (zY l j.size) (fun k e=>by rcases d k e with h | ⟨h,_⟩ <;> omega)⟩
theorem own_kpl {P:Nat→Nat→Prop} {a base e k n:Nat} {v:Value} {xs:List Value} (h:X.ownsRow base e k v n xs) (c:KpX P a X X') (d:∀b,base≤b→¬ P b e):X'.ownsRow base e k v n xs :=
 ⟨h.1,h.2.imp id fun ⟨g,cap,cur,e1,e2,e3,rest⟩=>⟨g,cap,cur,e1,e2,c.2 g _ _ _ (d g e2) e3,rest⟩⟩
end
theorem yMy (l:List Int) (m:Nat) (u:Int) (a:l.length=m+1) (b:l[m]? = some u):decide (l.getLast?.getD 0=2)=decide (u=2):=by
 rw [qx,a,show m+1-1=m from rfl,b];rfl
theorem yIl (T:ByteArray) (hs:T.size≤65536) (I j A:Int) (C J F:Bool) (hn:(pageI T I j A C F).length≤1000000) (w:World) (hT:T8 w) (hD:DB w) :
 Calls Tryz.prog 69 #[T,I,.agg #[j,C,.int .i8 A,J,F]] w fun e w'=>∃Pb,e=.returned (.pointer (some ⟨Pb,0,none⟩))∧w.heap.size≤Pb ∧
  yE9 w' w.heap.size Pb T j A C J F (pageI T I j A C F)∧Below w w w':=by
 have HG:Hid (pageI T I j A C F=yEs T I j A C F (linesI T) []):=lh rfl;obtain⟨g8,e4⟩:∃r,pageI T I j A C F=r:=⟨_,rfl⟩;rw [e4] at HG hn ⊢;have h3:Tryz.lays197_ren.g 3<w.heap.size:=yD (hT.1 0 (by omega));have h4:Tryz.lays197_ren.g 4<w.heap.size:=yD (hT.2 0 (by omega)).1;obtain⟨B,hB⟩:=nm (w.heap.size);have HT:=lh (fun (W:World) (h:Below w w W)=>(⟨hT.below rfl h,hD.below h⟩:T8 W∧DB W));have o2:=Tryz.info_one;obtain⟨i5,o3,o4,o5,o6⟩:=info_parts o2;have s3:=lh (fun p (hp:p∈linesI T)=>yOh T _ (yIp T hs) p hp);clear hT hD e4;refine (qG (n:=4)).1 ?_;refine qI Tryz.func69 rfl trivial ?_ rfl;simp only [Tryz.ntmps69,qW,zb,zn,Nat.reduceAdd,Nat.reduceSub,qX,qY,qZ,qd,zp,zo];gi_upto_region 1 with fail;have m1:=zL w (.cells #[T] 9);have b9:∀(W:World) (o:Obj),Below W W (W.alloc o):=fun W o=>(Zc _ _).alloc (zT _) _;have g9:=b9 w (.cells #[T] 9);have c8:=zM w (.cells #[T] 9);generalize w.alloc _=W1 at m1 g9 c8 ⊢;have m2:=zL W1 (.cells #[I] 3);have c9:=b9 W1 (.cells #[I] 3);have d0:=zM W1 (.cells #[I] 3);generalize W1.alloc _=W2 at m2 c9 d0 ⊢;have m3:=zL W2 (.cells #[j,C,.int .i8 A,J,F] 26);have c0:=b9 W2 (.cells #[j,C,.int .i8 A,J,F] 26);have e5:=zM W2 (.cells #[j,C,.int .i8 A,J,F] 26);generalize W2.alloc _=W3 at m3 c0 e5 ⊢;rw [hB] at m1 c8 h3 h4;rw [c8] at m2 d0 c9;rw [d0] at m3 e5 c0
 try rw [d0]
 try rw [c8]
 try rw [hB]
 have n1:=(c0.block B (by omega)).trans ((c9.block B (by omega)).trans m1);have n2:=(c0.block (B+1) (by omega)).trans m2;have j0:Below B w W3:=hB▸(g9.trans (c9.mono (by omega))).trans (c0.mono (by omega));have c1:=qc1 n1;obtain⟨l0,l1,l2,l3,l4⟩:=qc5 m3;gi_upto_region 2 with fail;have m4:=zL W3 (.cells #[T,j,C,.int .i8 A,J,F,.slice none 0 0] 155);have e7:=b9 W3 (.cells #[T,j,C,.int .i8 A,J,F,.slice none 0 0] 155);have e8:=zM W3 (.cells #[T,j,C,.int .i8 A,J,F,.slice none 0 0] 155);generalize W3.alloc _=W4 at m4 e7 e8 ⊢;have m5:=zL W4 (.cells #[.pointer (some ⟨B+1+1+1,0,none⟩)] 145);have d2:=b9 W4 (.cells #[.pointer (some ⟨B+1+1+1,0,none⟩)] 145);have e9:=zM W4 (.cells #[.pointer (some ⟨B+1+1+1,0,none⟩)] 145);generalize W4.alloc _=W5 at m5 d2 e9 ⊢;rw [e5] at m4 e8 e7;rw [e8] at m5 e9 d2;have d3:Below (B+3) W3 W5:=(e7.mono (by omega)).trans (d2.mono (by omega));have k1:=(d3.block B (by omega)).trans n1;have k2:=(d3.block (B+1) (by omega)).trans n2;have k3:=(d3.block (B+1+1) (by omega)).trans m3;have k4:=(d2.block (B+3) (by omega)).trans m4;have j1:Below B w W5:=j0.trans (d3.mono (by omega));have d1:=qc1 k1;have K1:=lh k1;have K2:=lh k2;have K3:=lh k3;have K4:=lh k4;have M5:=lh m5;have j2:=lh j1;clear m1 m2 m3 m4 m5 n1 n2 g9 c9 c0 e7 d2 j0 d3 c8 d0 e5 e8 c1 l0 l1 l2 l3 l4 k1 k2 k3 k4 j1 b9;gi_wp2;refine⟨trivial,?_⟩;refine (qG.2 (yQv T W5 _ e9)).mono ?_;rintro e' W6 ⟨rfl,j3,a4,f0⟩;obtain⟨z,o7⟩:=nm (B+1+1+1+1+1);rw [o7] at j3 e9 f0 ⊢;have s4:=a4.size;have q1:=(a4.block B (by omega)).trans K1.out;have q2:=(a4.block (B+1) (by omega)).trans K2.out;have q3:=(a4.block (B+2) (by omega)).trans K3.out;have q4:=(a4.block (B+3) (by omega)).trans K4.out;have q5:=(a4.block (B+4) (by omega)).trans M5.out;have q6:Below B w W6:=j2.out.trans (a4.mono (by omega));have j4:=HT.out W6 (hB▸q6);have j5:LyB B z T I j A C J F w [] W6:=⟨⟨_,q4,Zx _ _ _ _⟩,q1,q2,q3,q5,q6⟩;have o8:=lh j5;have o9:=lh j4;clear q1 q2 q3 q4 q5 q6 K1 K2 K3 K4 M5 j2 j4 j5 a4 d1;gi_wp2;refine yCt (by omega) (gf:=56) (lb:=#[.pointer (some ⟨z,0,none⟩)]) rfl trivial (qJ Tryz.func56 (by kernel_rfl) rfl)
  (yK7 z B (lyP z) T (by omega) h3 h4 W6 (by omega) j3 o9.out.1 (fun h=>by rcases h with h | h;exact qF h (by omega);exact qF h (by decide)) (fun b t hb ht h=>by rcases h with h | h;exact qF h (by omega);rcases ht with e | e | e <;> (rw [e] at h;exact qF h (by decide))))
  (fun h k=>KpX.trans h k) (kpX_put (w:=W6) (by omega)) (Zc _ _) (fun _=>rfl)
  (fun pre X=>∃N,pre.map (·.1)=(linesI T).take pre.length∧g8=yEs T I j A C F ((linesI T).drop pre.length) N∧LyB B z T I j A C J F w N X)
  (fun _ _ _=>False) ?hI (fun _ _ _ _ _ h _ _=>h) ?h0
  (fun x=>{ tmps:=#[.string T,.int .i64 I,.agg #[.int .i64 j,.bool C,.int .i8 A,.bool J,.bool F],.pointer (some ⟨B,0,none⟩),.pointer (some ⟨B+1,0,none⟩),.pointer (some ⟨B+1+1,0,none⟩),.pointer none,.pointer (some ⟨B+1+1+1+1,0,none⟩),.int .i64 x.1.1,.string x.1.2,undef,undef,undef,.string T,.agg #[.int .i64 j,.bool C,.int .i8 A,.bool J,.bool F],.agg #[.string T,.int .i64 j,.bool C,.int .i8 A,.bool J,.bool F,.slice none 0 0],.pointer (some ⟨B+1+1+1,0,none⟩),.string T,.func (.func 56) #[] #[.pointer (some ⟨z,0,none⟩)],.int .i64 x.1.1,.string x.1.2,undef,undef,undef,undef,undef,undef,undef,undef,undef,undef,undef,undef,undef,undef,undef,undef,undef,undef,undef,undef,undef,undef,undef,undef,undef,undef,undef,undef,undef,undef,undef,undef,undef,undef,undef,undef,undef,undef,undef,undef,undef,undef,undef,undef,undef,undef,undef,undef,undef,undef,undef,undef,undef,undef,undef,undef,undef,undef,undef,undef,undef,undef,undef,undef,undef,undef,undef,undef],defers:=[] }) ?assign ?body ?done ?stop
 case hI =>
  rintro pre X X' row ⟨N,r1,r2,r5⟩ hg j6;rw [f0] at j6;exact⟨N,r1,r2,r5.stays (by omega) (by omega) hg j6⟩
 case h0=>exact⟨[],rfl,by rw [HG.out];rfl,o8.out⟩
 case assign =>
  intro l' x W' K hK;gi_wp2;exact hK
 case body =>
  rintro l' pre x X ⟨N,r1,r2,r5⟩ p0 p1;rw [f0] at p1;obtain⟨H,f1⟩:∃a,x.1.1=a:=⟨_,rfl⟩;obtain⟨d,f2⟩:∃c,x.1.2=c:=⟨_,rfl⟩;have hx:=x.2;rw [f1,f2] at hx;obtain⟨R,hR⟩:=p0;have j7:(linesI T).drop pre.length=x.1::R:=by
   rw [←hR,zW,zZ,zz (by rw [zK]),ZA,ZN]
  have j8:(linesI T).drop (pre++[x]).length=R:=by
   rw [←hR,zz (by rw [zK])]
  have j9:(linesI T).take (pre++[x]).length=(pre++[x]).map (·.1):=by
   rw [←hR,List.take_left' (by rw [zK])]
  have k5:x.1=(H,d):=(by rw [←f1,←f2]);rw [j7,yEs,k5] at r2;obtain⟨st,d4⟩:∃s,yGx T I j A C F N (H,d)=s:=⟨_,rfl⟩;have h1:=yKe T I j A C F N (H,d);have k6:=yQh T I j A C F R st;rw [d4] at r2 h1;rw [←r2] at k6;simp only [f1,f2];obtain⟨a1,f3⟩:∃r,rowsI d I j A C F=r:=⟨_,rfl⟩;obtain⟨n,f4⟩:=nm (a1.length);have p2:st.length=N.length+n:=(by rw [h1,←f4,←f3]);have s5:N.length+n≤1000000:=(by omega);unfold yGx at d4;rw [f3] at d4;have k7:=lh (fun (W:World) (h:Below w w W)=>(Rows_any d I j A C J F W (HT.out W h).1 (HT.out W h).2).mono (fun e w' h=>(by rw [f3,f4] at h;exact h:∃pa cap,e=.returned (.slice pa n cap)∧yF3 w' W.heap.size (.slice pa n cap) a1∧Below W W w')));obtain⟨wh,f5⟩:∃l,ye d=l:=⟨_,rfl⟩;obtain⟨wl,f8⟩:∃n,wh.length=n:=⟨_,rfl⟩;have h2:=lh f5;have a9:=lh f8;have k8:=lh (fun (W:World) (h:Below w w W)=>(yMl d W (HT.out W h).1 (by omega)).mono (fun e w' h=>(by rw [f5,f8] at h;exact h:∃a c,e=.returned (.slice a wl c)∧yG .i8 22 w' W.heap.size a c wh∧Below W W w')));have s6:wl≤65536:=by
   rw [←f8,←f5,yFg];have:=yAj d;omega
  clear f5 f8;have p4:=lh d4;have p5:=lh j8;have p6:=lh j9;have f9:=lh f4;have p7:=lh r2;have S0:=lh (LyB.start r5);obtain⟨⟨v0,_,_⟩,_,b4,b5,b6,b7⟩:=r5;have c1:=b4.cell;obtain⟨k0,k1,k2,k3,k4⟩:=qc5 b5;have k9:=k7.out X (hB▸b7);have HC:=lh k9;clear f1 f2 hR j7 j8 j9 r1 r2 f3 b4 b5 b6 b7 f4 HG d4 h1 p2 k6 k5 k9 k7;gi_wp2;refine⟨trivial,?_⟩;refine (qG.2 HC.out).mono ?_;rintro e' Y ⟨pa,cap,rfl,hO,h5⟩;clear HC c1 k0 k1 k2 k3 k4;have s7:=h5.size;have S1:=lh (LyS.below (by omega) (by omega) S0.out h5);have HO:=lh hO;clear hO h5 S0;gi_wp2;gi_loopw [11,26] (fun _ u26 wr=>∃(i:Nat),i≤n∧u26=.int .i64 i∧LyS B z T I j A C J F w Y (N++oneL (H,d) (a1.take i)) wr) (fun _ u26 _=>n-(intOf u26).toNat)
  case atStart=>exact⟨0,zd _,rfl,by rw [Zj];show LyS B z T I j A C J F w Y (N++[]) Y;rw [zq];exact LyB.start S1.out.1⟩
  case round =>
   obtain⟨i,s8,rfl,hS⟩:=hrel;by_cases g0:i<n
   ·obtain⟨r,hr⟩:∃r,a1[i]? = some r:=⟨_,zF (by have:=f9.out;omega)⟩;have l5:yF3 wr X.heap.size (.slice pa n cap) a1:=own_kpl HO.out hS.2.2.2 (fun b hb h=>by rcases h with h | h;omega;exact qF h (by decide));have l6:RdR wr pa a1:=yF3.rd (by rw [f9.out];exact l5);obtain⟨b,s9,eb,_,x0,x1,x2,x3,x4⟩:=l6.at i r hr;subst eb;have l7:oneL (H,d) (a1.take (i+1))=oneL (H,d) (a1.take i)++[⟨r,H,d⟩]:=by
     unfold oneL;rw [yE2 hr,zW,ZA]
    have t0:(i:Int)<(n:Int):=(by omega);have p8:=lh l7;have HS:=lh hS;have l8:z<wr.heap.size:=(by have:=(hS.2.1 (by omega));omega);have p9:z+5≤wr.heap.size:=hS.2.1 (by omega);clear l5 l6 l7 hr hS;gi_upto_region 8 with fail;have h6:=qal wr (.cells #[r.a,r.len,.int .u8 r.level,r.wide,.int .i8 r.fin] 24);have g2:=zL wr (.cells #[r.a,r.len,.int .u8 r.level,r.wide,.int .i8 r.fin] 24);have g3:=zM wr (.cells #[r.a,r.len,.int .u8 r.level,r.wide,.int .i8 r.fin] 24);generalize wr.alloc _=Z at h6 g2 g3 ⊢;obtain⟨O,q0⟩:∃R,wr.heap.size=R:=⟨_,rfl⟩;have l9:=LyS.below (by omega) l8 HS.out h6;rw [q0] at g2 g3 l8 p9 ⊢;have h7:=LyS.below (by omega) (by omega) l9 (Below.drew (Zc Z.heap.size Z));have a5:Z.drew.heap[O]? = some (.cells #[r.a,r.len,.int .u8 r.level,r.wide,.int .i8 r.fin] 24 (0,0)):=g2;have g4:Z.drew.heap.size=O+1:=g3;obtain⟨S,a6⟩:∃S:World→Prop,(fun W=>yi [O,B+1+1+1+1,B+1+1+1] Z.drew W)=S:=⟨_,rfl⟩;refine yPg S (by kernel_rfl) (by kernel_rfl) (fun _ _ h=>h) ?_;generalize Z.drew=V at h7 a5 g4 a6 ⊢;have SV:=lh h7;obtain⟨⟨⟨v,v1,v2⟩,_,_,_,v5,_⟩,_⟩:=h7;have V1:=lh v1;have V2:=lh v2;have q7:=lh a5;have c2:∀W,S W→yi [O,B+1+1+1+1,B+1+1+1] V W:=fun W h=>by rw [←a6] at h;exact h
    have b0:∀W,yi [O,B+1+1+1+1,B+1+1+1] V W→S W:=fun W h=>by rw [←a6];exact h
    have kx:∀(b i:Nat) (u:Value),b∈[O,B+1+1+1+1,B+1+1+1]→V.cell? ⟨b,i,none⟩=some u→∀p:WIn S,p.w.cell? ⟨b,i,none⟩=some u:=fun b i u M h p=>(yBb (c2 _ p.h b M)).trans h;have m0:∀b∈[O,B+1+1+1+1,B+1+1+1],b<V.heap.size:=fun b M=>by
     simp only [zX,ze,or_false] at M;rcases M with rfl | rfl | rfl <;> omega
    have y0:=kx O 0 (.int .i64 r.a) (by simp) (ce a5);have y1:=kx O 1 (.int .i64 r.len) (by simp) (ce a5);have y2:=kx O 2 (.int .u8 r.level) (by simp) (ce a5);have y3:=kx O 3 (.int .i64 r.wide) (by simp) (ce a5);have y4:=kx O 4 (.int .i8 r.fin) (by simp) (ce a5);have y5:=kx (B+1+1+1+1) 0 (.pointer (some ⟨B+1+1+1,0,none⟩)) (by simp) v5.cell;have y6:=kx (B+1+1+1) 6 v (by simp) (ce v1);have U:=lh b0;have a3:Nonempty (WIn S):=⟨⟨V,b0 _ (fun _ _=>rfl)⟩⟩;have m6:=lh m0;have q8:=lh g4;clear g4 kx c2 b0 a6 v1 v2 v5 l9 h6 g2 g3 a5 m0;simp only [yAz,nop,yDx];refine yAq [0,1,2,3,4,5,6,7,8] 9 [_,_,_,_,_,_,_,_,_] (fuel:=4) (fun _ _ _ _ h=>h) (by kernel_rfl) (U.out _ (fun _ _=>rfl)) ?_
    repeat (go_big_quiet_step (fail))
    refine Zt ?_;intro K a7;go_wp2;have g4:=q8.out;have a0:=qal V (.cells #[r.a,r.len,.int .u8 r.level,r.wide,.int .i8 r.fin,H,d] 152);have d5:yi [O,B+1+1+1+1,B+1+1+1] V (V.alloc (.cells #[r.a,r.len,.int .u8 r.level,r.wide,.int .i8 r.fin,H,d] 152)):=yi.below (fun _ _=>rfl) a0 m6.out;refine a7.out _ _ (U.out _ d5) ?_;clear a7;have t1:(N++oneL (H,d) (a1.take i)).length+1≤1000000:=by
     rw [zJ];unfold oneL;rw [zK,za];omega
    refine yj 10 (fuel:=3) (fun _ _ _ _ h=>h) (by kernel_rfl) (U.out _ d5) fun K a7=>?_;refine Zy _ rfl _ _ 153 rfl (z+5) 152 i5 _ 7 64 Tryz.underlying153 o3 o4 o5 o6 rfl (by decide) v _ _ rfl (V2.out.alloc _) ⟨V,0,none⟩ 1 1 [r.a,r.len,.int .u8 r.level,r.wide,.int .i8 r.fin,H,d] rfl rfl (newS _ _ _) (by simp [Value.oneCell']) (by unfold maxLen;omega) (by omega) (by rw [zM];omega) ?_;intro v' V3 h8 c4 _ _;obtain⟨g',t2,rfl⟩:=ownsRow_succ h8;have h9:=LyS.below (by omega) (by omega) SV.out a0;have i0:=(a0.block (B+3) (by omega)).trans V1.out;have d6:=V2.out.alloc (.cells #[r.a,r.len,.int .u8 r.level,r.wide,.int .i8 r.fin,H,d] 152);have i1:=(a0.block O (by omega)).trans q7.out;have m7:=a0.size;have i2:=fun b M=>zl (m6.out b M) m7;replace c4:(V.alloc (.cells #[r.a,r.len,.int .u8 r.level,r.wide,.int .i8 r.fin,H,d] 152)).grownBy V3 v.ownBlock:=c4;generalize V.alloc _=VA at a0 d5 h9 i0 d6 i1 c4 i2;have g0:=d6.lt;have a8:yi [O,B+1+1+1+1,B+1+1+1] V V3:=d5.grown c4 (fun b M=>⟨i2 b M,fun e=>by
     simp only [zX,ze,or_false] at M;rcases M with rfl | rfl | rfl
     ·obtain⟨_,cs,f,e1⟩:=yIw d6 b _ e.symm i1;cases e1
     ·have:=g0 _ e.symm;omega
     ·have:=g0 _ e.symm;omega⟩)
    have i3:=LyS.more (x:=⟨r,H,d⟩) (by omega) h9 i0 d6 c4 h8;have p3:=(a8 (B+1+1+1) (by simp)).trans V1.out;obtain⟨-,-,-,-,-,-,e6⟩:=qc7 p3;have f6:V3.frozen? ⟨B+1+1+1,6,none⟩=false:=fz p3;rw [zZ,←p8.out] at i3;have q9:=lh i3;refine a7.out _ _ (U.out _ a8) ?_;clear a7 i3 h8 c4 h9 i0 d6 i1 a0 g0 i2 p3 d5;simp only [Act.put,zg,zh,zi];refine yAi [11,12,13] (fun _ _ _ _ h=>h) (by kernel_rfl) (U.out _ a8) ?_;simp only [yS,zD,zE,zC,zB,zA];show wpQuiet _ _ _ _ [_,_,_] _
    repeat (go_big_quiet_step (fail))
    refine Zt ?_;change wpList _ _ _ _ _ _;clear y0 y1 y2 y3 y4 y5 y6 a3 U a8;go_wp2;gi_wp2;exact⟨⟨i+1,by omega,by go_num,by have h:=q9.out;rw [zJ] at h;exact h⟩,by simp [intOf];omega⟩
   ·obtain rfl:i=n:=(by omega);rw [qU (by have:=f9.out;omega)] at hS;obtain⟨P,g5⟩:∃a,N++oneL (H,d) a1=a:=⟨_,rfl⟩;rw [g5] at hS;have m8:=LyS.and S1.out hS;have i4:=p4.out;rw [g5] at i4;have g6:=lh i4;have t3:P.length≤1000000:=by
     rw [←g5,zJ];unfold oneL;rw [zK];have:=f9.out;omega
    obtain⟨⟨_,_,_,_,_,m9⟩,n0,_,_⟩:=hS;have n3:=lh m8;have t4:z+5≤wr.heap.size:=n0 (by omega);have n4:=lh (k8.out wr (hB▸m9));clear m8 i4 k8 m9 n0 HO g5;gi_wp2;refine⟨trivial,?_⟩;refine (qG.2 n4.out).mono ?_;rintro e' V ⟨wa,wc,rfl,Q,a0⟩;have m7:=a0.size;have S2:=lh (LyS.below (by omega) (by omega) n3.out a0);have n5:=lh Q;obtain⟨⟨⟨v,v1,v2⟩,v3,_,_,v5,_⟩,_⟩:=S2.out;obtain⟨pv,cv,rfl,_⟩:=yI6 v2;have V1:=lh v1;have V2:=lh v2;have c3:=v3.cell;have c5:V.cell? ⟨B+1+1+1+1,0,none⟩=some (.pointer (some ⟨B+1+1+1,0,none⟩)):=v5.cell;obtain⟨-,-,-,-,-,-,c6⟩:=qc7 v1;have t5:IntKind.i64.wrap ((H:Int)+(d.size:Int))=(H:Int)+d.size:=(by rw [ZH];omega);have g7:Hid (∀W,LyS B z T I j A C J F w X st W→KeepsFrom W6.heap.size X W∧KpX (lyP z) B X W∧∃n6,List.map (fun x=>x.1) (pre++[x])=(linesI T).take (pre++[x]).length∧g8=yEs T I j A C F ((linesI T).drop (pre++[x]).length) n6∧LyB B z T I j A C J F w n6 W):=lh fun W h =>
     ⟨by rw [f0];exact h.2.2.1,h.2.2.2,st,p6.out.symm,by rw [p5.out];exact p7.out,h.1⟩
    clear Q v1 v2 v3 v5 a0 n4 n3;by_cases g1:(H:Int)+(d.size:Int)<(T.size:Int)
    case neg =>
     have d7:cutL T (H,d)=false:=by
      unfold cutL;rw [zP (show ¬ (((H,d):Nat × ByteArray).1+((H,d):Nat × ByteArray).2.size<T.size) by show ¬ (H+d.size<T.size);omega)];rfl
     have d8:P=st:=by
      have h:=g6.out
      rwa [Zf (by rw [d7];decide)] at h
     subst d8;have d1:decide ((H:Int)+(d.size:Int)<(T.size:Int))=false:=zP g1;clear d7;gi_upto_region 11 with fail;refine yc (by kernel_rfl) (fun _ _ h=>h) ?_;go_wp2;gi_wp2;exact g7.out _ S2.out
    case pos =>
    have d1:decide ((H:Int)+(d.size:Int)<(T.size:Int))=true:=zQ g1;by_cases a3:P=[]
    ·have d8:P=st:=by
      have h:=g6.out;rw [a3] at h ⊢;split at h <;> exact h
     have h0:P.length=0:=(by rw [a3];rfl);subst d8;rw [h0] at c6;clear a3 h0;gi_upto_region 11 with fail;refine yc (by kernel_rfl) (fun _ _ h=>h) ?_;go_wp2;gi_wp2;exact g7.out _ S2.out
    ·obtain⟨k,hk⟩:∃k,P.length=k+1:=⟨P.length-1,by have:=zj.2 a3;omega⟩;obtain⟨xl,i6⟩:∃x,P[k]? = some x:=⟨_,zF (by omega)⟩;have i7:=setEnd_set (L:=P) (x:=xl) (by rw [hk];exact i6);rw [hk,show k+1-1=k from rfl] at i7;have HK:=lh hk;have t6:k+1≤1000000:=(by omega);have r0:=lh i7;rw [hk] at c6;have dk:decide ((0:Int)<((k+1:Nat):Int))=true:=zQ (by omega);have t7:(0:Int)<(k:Int)+1:=(by omega);have d7:cutL T (H,d)=!yDt d:=by
      unfold cutL;rw [zQ (show ((H,d):Nat × ByteArray).1+((H,d):Nat × ByteArray).2.size<T.size by show H+d.size<T.size;omega)];rfl
     have n7:=lh d7;clear d7 i7 hk a3;by_cases a2:yDt d=true
     ·obtain⟨m,M⟩:∃m,wl=m+1:=by
       cases wl with
       | zero =>
         have h0:wh=[]:=ZE.1 a9.out;unfold yDt at a2;rw [h2.out,h0] at a2;exact qF a2 (by decide)
       | succ m=>exact⟨m,rfl⟩
      subst M;obtain⟨u,hu⟩:∃u,wh[m]? = some u:=⟨_,zF (by have:=a9.out;omega)⟩;have d9:u=2:=by
       unfold yDt at a2;rw [h2.out,yMy wh m u a9.out hu] at a2;exact JZ a2
      subst d9;have d8:P=st:=by
       have h:=g6.out
       rwa [Zf (by rw [n7.out,a2];decide)] at h
      subst d8;have Q:=n5.out;unfold yG at Q;rw [a9.out] at Q;obtain⟨G,eG,_,_,b8,e0,e2⟩:=(by obtain⟨a',c',e,h⟩:=yEe Q;cases e;exact h (by omega):∃G,wa=some ⟨G,0,none⟩∧_≤G∧G<V.heap.size∧∃b8:Array Value,V.heap[G]? = some (.cells b8 22 (0,0))∧∀(i:Nat) (y:Value),(wh.map (Value.int .i8))[i]? = some y→b8[i]? = some y);subst eG;have cw:V.cell? ⟨G,m,none⟩=some (.int .i8 2):=by
       have:=e2 m (.int .i8 2) (by rw [zm,hu];rfl);simp [World.cell?,e0,this]
      have r3:IntKind.i64.wrap (((m+1:Nat):Int)-1)=(m:Int):=(by rw [ZH];omega);have r4:IntKind.i64.wrap ((m:Int)+1-1)=(m:Int):=(by rw [ZH];omega);have r6:IntKind.i64.wrap (m:Int)=(m:Int):=(by rw [ZH];omega);have dm:(((m+1:Nat):Int)==0)=false:=zN.2 (by omega);have r7:(((m:Int)+1)==0)=false:=zN.2 (by omega);clear a2 hu Q e0 e2;gi_upto_region 11 with fail;refine yc (by kernel_rfl) (fun _ _ h=>h) ?_;go_wp2;gi_wp2;exact g7.out _ S2.out
     ·have e3:yDt d=false:=by cases h:yDt d <;> first | rfl | exact qF h a2
      have r8:yGw P=st:=by
       have h:=g6.out
       rwa [Zg (by rw [n7.out,e3];rfl)] at h
      obtain⟨Gv,r9,t8,t9,n8,n9⟩:=yN.at (E:=yFa) (show yN yFa 152 V (z+5) (.slice pv P.length cv) P from V2.out) k xl i6;subst r9;have c7:V.drew.cell? ⟨Gv,k*7+4,none⟩=some (.int .i8 xl.r.fin):=n8 4 _ rfl;have f7:V.drew.frozen? ⟨Gv,k*7+4,none⟩=false:=n9 (k*7+4);have u0:IntKind.i64.wrap (((k+1:Nat):Int)-1)=(k:Int):=(by rw [ZH];omega);have u1:IntKind.i64.wrap ((k:Int)+1-1)=(k:Int):=(by rw [ZH];omega);have u2:IntKind.i64.wrap (k:Int)=(k:Int):=(by rw [ZH];omega);have u3:(k:Int)<(k:Int)+1:=(by omega);clear n8 n9 a2;by_cases s0:wl=0
      case' neg =>
       obtain⟨m,M⟩:∃m,wl=m+1:=⟨wl-1,by omega⟩;subst M;obtain⟨u,hu⟩:∃u,wh[m]? = some u:=⟨_,zF (by have:=a9.out;omega)⟩;have d9:u≠2:=fun e=>by
        unfold yDt at e3;rw [h2.out,yMy wh m u a9.out hu] at e3;exact of_decide_eq_false e3 e
       have du:(u==2)=false:=zN.2 d9;have u4:(u != 2)=true:=(by simp [d9]);have Q:=n5.out;unfold yG at Q;rw [a9.out] at Q;obtain⟨G,eG,_,_,b8,e0,e2⟩:=(by obtain⟨a',c',e,h⟩:=yEe Q;cases e;exact h (by omega):∃G,wa=some ⟨G,0,none⟩∧_≤G∧G<V.heap.size∧∃b8:Array Value,V.heap[G]? = some (.cells b8 22 (0,0))∧∀(i:Nat) (y:Value),(wh.map (Value.int .i8))[i]? = some y→b8[i]? = some y);subst eG;have cw:V.cell? ⟨G,m,none⟩=some (.int .i8 u):=by
        have:=e2 m (.int .i8 u) (by rw [zm,hu];rfl);simp [World.cell?,e0,this]
       have r3:IntKind.i64.wrap (((m+1:Nat):Int)-1)=(m:Int):=(by rw [ZH];omega);have r4:IntKind.i64.wrap ((m:Int)+1-1)=(m:Int):=(by rw [ZH];omega);have r6:IntKind.i64.wrap (m:Int)=(m:Int):=(by rw [ZH];omega);have dm:(((m+1:Nat):Int)==0)=false:=zN.2 (by omega);have r7:(((m:Int)+1)==0)=false:=zN.2 (by omega);clear e3 hu Q e0 e2 d9
      case' pos =>
       subst s0
      all_goals
       gi_upto_region 11 with fail;refine yc (by kernel_rfl) (fun _ _ h=>h) ?_;go_wp2;gi_upto_region 12 with fail;obtain⟨S,a6⟩:∃S:World→Prop,(fun W=>yi [B+1+1+1+1,B+1+1+1] V W)=S:=⟨_,rfl⟩;have c2:∀W,S W→yi [B+1+1+1+1,B+1+1+1] V W:=fun W h=>by rw [←a6] at h;exact h
       have b0:∀W,yi [B+1+1+1+1,B+1+1+1] V W→S W:=fun W h=>by rw [←a6];exact h
       have y5:∀p:WIn S,p.w.cell? ⟨B+1+1+1+1,0,none⟩=some (.pointer (some ⟨B+1+1+1,0,none⟩)):=fun p=>(yBb (c2 _ p.h _ (by simp))).trans c5;have y6:∀p:WIn S,p.w.cell? ⟨B+1+1+1,6,none⟩=some (.slice (some ⟨Gv,0,none⟩) (k+1) cv):=fun p=>(yBb (c2 _ p.h _ (by simp))).trans c6;have U:=lh b0;have a3:Nonempty (WIn S):=⟨⟨V,b0 _ (fun _ _=>rfl)⟩⟩;clear c2 b0 a6 c3 c5 c6;refine wpIn_region_T S (by kernel_rfl) (by kernel_rfl) (fun _ _ h=>h) ?_;refine yHi [0,1,2,3,4,5,6,7,8,9,10,11,12] [13] (fuel:=0) (fun _ _ _ _ h=>h) (by kernel_rfl) (U.out V.drew (fun _ _=>rfl)) ?_;simp only [yS,zD,zE,zC,zB,zA];show wpQuiet _ _ _ _ [_,_,_,_,_,_,_,_,_,_,_,_,_] _
       repeat (go_big_quiet_step (fail))
       refine Zt ?_;intro q hq;obtain rfl:=zO.1 hq;intro K hK;have a7:=lh hK;clear hK;simp only [zD,zE,zC,zB,zA];show wpList _ _ _ [_] _ _;have i9:=LyS.last (i:=k) (x:=xl) (y:={ xl with r:={ xl.r with fin:=3 } }) (by omega) (LyS.below (by omega) (by omega) S2.out (Below.drew (Zc V.heap.size V))) V1.out V2.out i6 rfl;rw [←r0.out] at i9;have s1:=lh i9;have a8:yi [B+1+1+1+1,B+1+1+1] V (V.drew.setCell ⟨Gv,k*7+4,none⟩ (.int .i8 3)):=yi.grown (W:=V.drew) (fun _ _=>rfl) (yF2 V.drew Gv (k*7+4) (.int .i8 3)) (fun b M=>by
        simp only [zX,ze,or_false] at M;have u5:V.drew.heap.size=V.heap.size:=rfl;rcases M with rfl | rfl <;> exact⟨by omega,fun e=>qF (zu e) (by omega)⟩)
       clear i9;go_wp2;refine a7.out _ _ (U.out _ a8) ?_;clear a7;refine yAi [] (fun _ _ _ _ h=>h) (by kernel_rfl) (U.out _ a8) ?_;simp only [yS,zE];refine Zt ?_;clear y5 y6 a3 U a8;gi_wp2;exact g7.out _ (r8▸s1.out)
 case done =>
  rintro D xs W hD o0 ⟨N,r1,r2,⟨v,b1,b2⟩,b3,b4,b5,b6,b7⟩ hK;have hl:xs.length=(linesI T).length:=(by rw [←o0,zK]);have e4:g8=N:=(by rw [r2,hl,Zi,yEs]);have c1:=b6.cell;have HV:=lh b2;have o1:=lh b1;have s2:=lh b7;subst e4;clear r1 r2 b1 b2 b3 b4 b5 b6 b7 o0 hl HG;gi_wp2;obtain⟨va,vc,rfl,_⟩:=yI6 HV.out;refine⟨by simp,.inl ⟨_,_,rfl,Zv hK,?_⟩⟩;refine⟨_,results_tmp rfl _ _ _,B+1+1+1,rfl,by omega,?_,?_⟩
  ·rw [hB];refine⟨va,vc,((qE W D (.deferred none)).block (B+3) (zH.1 o1.out).1 (fun e=>qF (zu e) (by omega))).trans o1.out,yq (ownsRow_putObj HV.out _ hK rfl) (by omega)⟩
  ·rw [hB];exact s2.out.trans (JY (w:=w) (by omega) W D _ _ (by omega) hK rfl rfl)
 case stop =>
  rintro D c pre W hD _ h _;exact h.elim
def StJ (w:World) (B M:Nat) (pre:List (Nat × St)) (W:World):Prop :=
 ∃v,Boxed W B 27 v∧W.ownsRow M 33 3 v pre.length ((pre.map (·.2)).flatMap caE.enc)∧Below B w W
theorem yG9 (T:ByteArray) (hs:T.size≤65536) (d f:Int) (q t u:Bool) (L:List OneR) (c7:L.length≤1048576) (k:Nat) (x:OneR) (hx:L[k]? = some x) (a2:yBl T x) (base V:Nat) (w:World) (hP:yE9 w base V T d f q t u L) (hT:T8 w) (hD:DB w) :
 Calls Tryz.prog 73 #[.pointer (some ⟨V,0,none⟩),k] w fun e w'=>∃a c,e=.returned (.slice a (stK d f q t u x).length c) ∧
  yN caE 33 w' w.heap.size (.slice a (stK d f q t u x).length c) (stK d f q t u x)∧Below w w w':=by
 have c8:=Tryz.info_caret;obtain⟨i5,c9,d0,d1,d2⟩:=info_parts c8;have d3:=yA6 a2;have J:=qal w (.cells #[.slice none 0 0] 27);have a3:=Boxed.new w 27 (.slice none 0 0);have b5:=zM w (.cells #[.slice none 0 0] 27);have Y:=lh (pall_any T hs d f q t u L c7 k x hx a2 base V _ (hP.below J) (hT.below rfl J) (hD.below J));have b6:∀s∈stopsI (layI x.line d f q t u x.r.a x.r.len x.r.wide) x.r.fin,s.a≤2097152:=fun s d4=>by
  have C:=(yB3 T d f q t u x a2).1 _ (ZG.2 ⟨s,d4,rfl⟩);obtain⟨k1,a5⟩:=C.2.2.1;have h3:s.a+x.at'≤T.size:=a5.1;omega
 have a6:(stopsI (layI x.line d f q t u x.r.a x.r.len x.r.wide) x.r.fin).length≤8388608:=by
  obtain⟨Q,n0,nc,pf,hf,eQ,en,ec,g1,g2,f1,f2,f3,_⟩:=yA3 x.line (by omega) d f q t u x.r.a x.r.len x.r.wide x.r.fin;rw [eQ];omega
 have d7:stopsI (layI x.line d f q t u x.r.a x.r.len x.r.wide) x.r.fin≠[]:=(yCe x.line d f q t u x.r.a x.r.len x.r.wide x.r.fin _ rfl).1;have b7:=yIe d f q t u x;rw [b7];obtain⟨Q,hQ⟩:=nm (stopsI (layI x.line d f q t u x.r.a x.r.len x.r.wide) x.r.fin);rw [hQ] at Y b6 a6 d7 ⊢;obtain⟨y,b8⟩:∃a,x.at'=a:=⟨_,rfl⟩;rw [b8] at Y ⊢;have d8:y≤2097152:=by omega
 have g3:(Q.map (shS y)).length≤8388608:=by rw [zK];exact a6
 clear b7 hQ hP hT hD d3 a2 b8;refine (qG (n:=4)).1 ?_;refine qI Tryz.func73 rfl trivial ?_ rfl;simp only [Tryz.ntmps73,qW,zb,zn,Nat.reduceAdd,Nat.reduceSub,qX,qY,qZ,qd,zp,zo];gi_upto_region 2 with fail;generalize w.alloc _=W1 at J a3 b5 Y ⊢;obtain⟨B,hB⟩:=nm (w.heap.size);rw [hB] at a3 b5 ⊢;gi_wp2;refine⟨trivial,?_⟩;refine (qG.2 Y.out).mono ?_;rintro e' Z ⟨E,X,rfl,⟨G,cap,g4,e1,e2,e3,e4,e5,e6,hE,hX,hG⟩,a7⟩;obtain⟨M,hM⟩:=nm (Z.heap.size);rw [hM] at e4 e5 e6;have b9:Below B w Z:=hB▸J.trans (a7.mono (by omega));have c1:Boxed Z B 27 (.slice none 0 0):=(a7.block B (by omega)).trans a3;have d9:=lh b9;have e0:=lh c1;have e7:=lh hE;have e8:=lh hX;have e9:=lh hG;clear J a7 a3 Y b9 c1 hE hX hG;gi_wp2;refine yEr (by omega) (gf:=162) (lb:=#[.pointer (some ⟨E,0,none⟩),.pointer (some ⟨X,0,none⟩)]) rfl trivial (qJ Tryz.func162 (by kernel_rfl) rfl)
  (yNi E X G B y Q (some ⟨G,0,none⟩) cap d8 b6 a6 (fun _=>rfl) Z (by omega) e7.out e8.out (fun _=>e9.out)) (fun h k=>KpL.trans h k) (kpL_put (w:=Z) (by omega)) (fun W o hW=>⟨(Zc _ _).alloc (by omega) _,fun b N p hp hc=>((Zc W.heap.size W).alloc (zT _) o |>.block b (zH.1 hp).1).trans hp⟩) (Zc _ _) (fun _=>rfl)
  (StJ w B M) (fun _ _ _=>False) ?hI (fun _ _ _ _ _ h _ _=>h) ?h0
  (fun x c=>{ tmps:=#[.pointer (some ⟨V,0,none⟩),k,undef,undef,.slice none 0 0,.pointer (some ⟨B,0,none⟩),undef,.pointer (some ⟨c,0,none⟩),.pointer (some ⟨V,0,none⟩),k,.func (.func 162) #[] #[.pointer (some ⟨E,0,none⟩),.pointer (some ⟨X,0,none⟩)],.int .i64 x.1,yAy x.2,undef,undef,undef,undef,undef],defers:=[] })
  (fun x=>.cells #[.int .i64 x.2.a,.bool x.2.back,.int .i64 (-1)] 33) ?assign ?body ?done ?stop
 case hI =>
  rintro pre A A' row ⟨v,F,z,H⟩ hg a8;rw [hM] at a8;have hr:∀j,row=some j→∃o,A.heap[j]? = some o∧o.isCells=false:=fun j e=>by
   rcases a8 j e with h | ⟨_,h⟩
   ·omega
   ·exact h
  exact⟨v,yV F hg hr,yAd z hg hr,H.grown hg (by have:=H.size;omega) (fun j e=>by rcases a8 j e with h | ⟨h,_⟩ <;> omega)⟩
 case h0=>exact⟨_,e0.out,Zx _ _ _ _,d9.out⟩
 case assign =>
  intro l x' W K hK;unfold encI yAy;gi_wp2;exact hK
 case body =>
  rintro l pre x' c W ⟨v,F,z,H⟩ c2 hc a9;rw [hM] at hc;have f0:pre.length+1≤8388608:=by
   have:=c2.length_le;rw [zJ,ZM] at this;have h2:(yHf 0 (Q.map (shS y))).length=(Q.map (shS y)).length:=by
    have:=Zb List.length (yK0 (Q.map (shS y)) 0)
    rwa [zK] at this
   omega
  obtain⟨m,hm⟩:=nm (pre.length);rw [hm] at z f0;have c0:=F.cell;obtain⟨q0,q1,q2⟩:=qc3 a9;have R1:=lh F;have O:=lh z;have R3:=lh H;have f4:=lh hm;obtain⟨P,b0⟩:∃a,x'.2.a=a:=⟨_,rfl⟩;obtain⟨R,b1⟩:∃a,x'.2.back=a:=⟨_,rfl⟩;rw [b0] at q0;rw [b1] at q1;have hy:caE.enc x'.2=[.int .i64 P,.bool R,.int .i64 (-1)]:=(by rw [←b0,←b1];rfl);have f5:=lh hy;have g5:M≤W.heap.size:=(by have:=(zH.1 a9).1;omega);clear F z H a9 c2 hm b0 b1 hy;gi_wp2_with (gi_at_builtin;refine Zz _ rfl _ _ 27 rfl M 33 i5 _ 3 24 Tryz.underlying27 c9 d0 d1 d2 rfl (by decide) v m _ rfl (O.out.alloc _) ⟨W,0,none⟩ 1 1 [P,R,.int .i64 (-1)] rfl rfl (newS _ _ _) (by simp [Value.oneCell']) (by unfold maxLen;omega) (by omega) (by rw [zM];omega) ?_;intro v' I b2 a0 _;obtain⟨g',S,rfl⟩:=ownsRow_succ b2;have a4:Boxed I B 27 v:=(R1.out.alloc _).kept a0 (fun e=>by have:=((O.out.alloc (.cells #[P,R,.int .i64 (-1)] 33)).lt _ e.symm).1;omega);have d5:=a4.cell;have d6:=a4.frozen);have a1:=qal W (.cells #[P,R,.int .i64 (-1)] 33);have b3:=O.out.alloc (.cells #[P,R,.int .i64 (-1)] 33);generalize W.alloc _=W' at a1 b3 a0;have c3:=b3.lt;have g6:B<W.heap.size:=(by omega);have f6:Below B W I:=(a1.mono (by omega)).grown a0 (by have:=a1.size;omega) (fun j U=>by have:=c3 j U;omega);have c4:Below B W (I.setCell ⟨B,0,none⟩ (.slice (some ⟨g',0,none⟩) (m+1) S)):=f6.setCell (p:=⟨B,0,none⟩) (zT _) _;have a5:∀{b:Nat} {o:Obj},b<M→b≠B→W.heap[b]? = some o→(I.setCell ⟨B,0,none⟩ (.slice (some ⟨g',0,none⟩) (m+1) S)).heap[b]? = some o:=fun {b o} N f7 ho=>by
   have C:=(a1.block b (by omega)).trans ho;have h2:=(a0.block b (zH.1 C).1 (fun e=>by have:=c3 b e.symm;omega)).trans C;exact ((Zu I B (.slice (some ⟨g',0,none⟩) (m+1) S)).block b (zH.1 h2).1 (fun e=>by cases e;exact f7 rfl)).trans h2
  have f8:KeepsOthers W (I.setCell ⟨B,0,none⟩ (.slice (some ⟨g',0,none⟩) (m+1) S)):=((yR a1).trans (qQ a0 (fun j o U c5=>(by
   rcases b3.2 with ⟨C,_⟩ | ⟨g,S,g7,C,_,f9,_⟩
   ·rw [C] at U;cases U
   ·rw [C] at U;cases U;rw [f9] at c5;cases c5;rfl)))).trans (ZT _ _ _)
  have g0:=b2.kept (Zu I B (.slice (some ⟨g',0,none⟩) (m+1) S)) (.inr (a4.not_row (by decide) b2).symm);refine⟨f8.from _,⟨c4,fun b N o ho _=>a5 ?_ ?_ ho⟩,_,yM (i:=0) a4 _,?_,R3.out.trans c4⟩
  ·simp only [zX,ze,or_false] at N;rcases N with rfl | rfl | rfl <;> assumption
  ·simp only [zX,ze,or_false] at N;rcases N with rfl | rfl | rfl <;> omega
  ·rw [zJ,f4.out,zW,ZA,zU,zV,f5.out];exact g0
 case done =>
  rintro D xs W hD b4 ⟨v,F,z,H⟩ hK;have hl:(Q.map (shS y)).length=xs.length:=by
   have:=Zb List.length (yK0 (Q.map (shS y)) 0);rw [zK] at this;rw [b4,this]
  have c6:xs.map (·.2)=Q.map (shS y):=(by rw [b4,yK0]);rw [c6,←hl] at z;have c0:=F.cell;have O:=lh z;have R3:=lh H;clear F z H b4 c6 hl;gi_wp2;obtain⟨va,vc,rfl,_⟩:=yI6 O.out;refine⟨by simp,.inl ⟨_,_,rfl,Zv hK,?_⟩⟩;refine⟨_,results_tmp rfl _ _ _,va,vc,rfl,?_,?_⟩
  ·rw [hB];exact yq (ownsRow_putObj O.out _ hK rfl) (by omega)
  ·rw [hB];exact R3.out.trans (JY (w:=w) (by omega) W D _ _ (by omega) hK rfl rfl)
 case stop =>
  rintro D c pre W hD _ h _;exact h.elim
end
end Go.Proofs.YtncplikdjcmoeaaGreatDoor
