/- Lemmas, part 4: no further condition than each states. -/
import Derived.Test.YtncplikdjcmoeaaGreatDoorQ02
import Derived.Test.YtncplikdjcmoeaaGreatDoorQ03
namespace Go.Proofs.YtncplikdjcmoeaaGreatDoor
set_option linter.unusedVariables false
set_option linter.unusedSimpArgs false
set_option maxRecDepth 100000
set_option maxHeartbeats 4000000
section
open Go.RowKit Go.Proofs
def T8 (w:World):Prop:=Lib.Utf8Tabs (Tryz.lays197_ren.g 3) (Tryz.lays197_ren.g 4) w
theorem T8.below {B:Nat} {w w':World} (h:T8 w) (g:B=w.heap.size) (d:Below B w w'):T8 w':=by
 subst g;obtain⟨e,a⟩:=h;exact⟨fun c f=>yB d (yD (e c f)) (e c f),fun i b=>⟨yB d (yD (a i b).1) (a i b).1,yB d (yD (a i b).2) (a i b).2⟩⟩
theorem yCo (s:ByteArray):yAa s≤s.size:=Lib.decodeGo_le_size s
theorem yGs (s:ByteArray) (h:0<s.size):0<yAa s:=by
 unfold yAa Lib.decodeGo;rw [Zf (by omega)];exact Lib.decode_width_pos s 0 h
theorem yD4 (s:ByteArray) (w:World) (a:T8 w) :
 Calls Tryz.prog 95 #[s] w fun e w'=>e=.returned (.tuple #[.int .i32 (yAh s),.int .i64 (yAa s)])∧Below w w w':=by
 have b:=lh (Any.utf8_DecodeRuneInString Tryz.lays197 s w a);go_enter Tryz.func95,Tryz.ntmps95;go_wp2_with (go_at_call 134;refine b.out.mono ?_;rintro e w1 ⟨rfl,c⟩)
 go_ret2
 exact⟨rfl,c⟩
theorem yOy (r:Int) (w:World):Calls Tryz.prog 120 #[.int .i32 r] w fun e w'=>e=.returned (.bool (yB7 r))∧w=w':=by
 go_enter Tryz.func120,Tryz.ntmps120;go_wp2
 all_goals (go_ret;refine⟨yAk ?_,rfl⟩;unfold yB7;rw [ZY];simp;try omega)
theorem regional_any (r:Int) (w:World):Calls Tryz.prog 121 #[.int .i32 r] w fun e w'=>e=.returned (.bool (yA9 r))∧w=w':=by
 go_enter Tryz.func121,Tryz.ntmps121;go_wp2
 all_goals (go_ret;refine⟨yAk ?_,rfl⟩;unfold yA9;rw [ZY];simp;try omega)
theorem alone_any (r:Int) (w:World):Calls Tryz.prog 118 #[.int .i32 r] w fun e w'=>e=.returned (.bool (yP6 r))∧Below w w w':=by
 obtain⟨k,d⟩:=nm (yDn r);obtain⟨V,f⟩:=nm (yP6 r);have i:=lh (yIk r w);rw [d] at i;have a:V=if k=0 then true else if k=1 then !yB7 r else decide (r=8232)||decide (r=8233):=by rw [←f,←d];rfl
 have b:=lh a;rw [f];clear f d a;go_enter Tryz.func118,Tryz.ntmps118;go_upto_block 0 with (go_at_call 119;refine i.out.mono ?_;rintro e w1 ⟨rfl,c⟩);by_cases h0:k=0
 ·subst h0;go_wp2;go_ret;exact⟨yAk (by rw [b.out];rfl),c⟩
 ·have o:(k==0)=false:=(by simpa using h0);by_cases g:k=1
  ·subst g;obtain⟨j,l⟩:=nm (yB7 r);have m:=lh (yOy r w1);rw [l] at m b;clear l;go_wp2_with (go_at_call 120;refine m.out.mono ?_;rintro e p ⟨rfl,hw⟩;subst hw);go_ret;exact⟨yAk (by rw [b.out];rfl),c⟩
  ·have q:(k==1)=false:=(by simpa using g);have a:=b.out;rw [Zf h0,Zf g] at a;have n:=lh a;clear a b;by_cases h:r=8232
   ·subst h;go_wp2;go_ret;exact⟨yAk (by rw [n.out];rfl),c⟩
   ·have s:(r==8232)=false:=(by simpa using h);go_wp2;go_ret;exact⟨yAk (by rw [n.out,ZY];simp [h]),c⟩
theorem yH4 (r:Int) (w:World):Calls Tryz.prog 122 #[.int .i32 r] w fun e w'=>e=.returned (.bool (yGe r))∧Below w w w':=by
 obtain⟨k,b⟩:=nm (yDn r);obtain⟨u,c⟩:=nm (yHr r false);have d:=lh (yIk r w);have h:=lh (fun W=>Wide_any r false W);obtain⟨V,f⟩:=nm (yGe r);have i:V=(decide (k=7)&&decide (u=2)):=by rw [←f,←b,←c];rfl
 have j:=lh i;rw [f];rw [b] at d;rw [c] at h;clear f i b c;go_enter Tryz.func122,Tryz.ntmps122;by_cases g:k=7
 ·subst g;go_wp2_with (first
   | (go_at_call 119;refine d.out.mono ?_;rintro e w1 ⟨rfl,a⟩)
   | (go_at_call 165;refine (h.out _).mono ?_;rintro e m ⟨rfl,l⟩))
  go_ret;exact⟨yAk (by rw [j.out,ZY];simp),a.trans (l.mono a.size)⟩
 ·have n:(k==7)=false:=(by simpa using g);go_wp2_with (go_at_call 119;refine d.out.mono ?_;rintro e w1 ⟨rfl,a⟩);go_ret;exact⟨yAk (by rw [j.out];simp [g]),a⟩
theorem part_any (r:Int) (w:World):Calls Tryz.prog 166 #[.int .i32 r] w fun e w'=>e=.returned (.int .i64 (partI r:Nat))∧w=w':=by
 obtain⟨V,c⟩:=nm (partI r);have a:V=if r<4352∨55203<r then 0 else if r≤4447 then 1 else if r≤4519 then 2 else if r≤4607 then 4 else if r<44032 then 0 else if (r-44032) % 28=0 then 8 else 16:=by rw [←c];rfl
 have d:=lh a;rw [c];clear c a;go_enter Tryz.func166,Tryz.ntmps166;by_cases h0:r<4352
 ·go_wp2;go_ret;exact⟨yK (by rw [d.out,Zg (.inl h0)];rfl),rfl⟩
 by_cases f:55203<r
 ·have g:r > 55203:=f;go_wp2;go_ret;exact⟨yK (by rw [d.out,Zg (.inr f)];rfl),rfl⟩
 have m:¬ r > 55203:=f;have a:=d.out;rw [Zf (by omega)] at a;by_cases h:r≤4447
 ·rw [Zg h] at a;have b:=lh a;clear a;go_wp2;go_ret;exact⟨yK (by rw [b.out];rfl),rfl⟩
 rw [Zf h] at a;by_cases i:r≤4519
 ·rw [Zg i] at a;have b:=lh a;clear a;go_wp2;go_ret;exact⟨yK (by rw [b.out];rfl),rfl⟩
 rw [Zf i] at a;by_cases j:r≤4607
 ·rw [Zg j] at a;have b:=lh a;clear a;go_wp2;go_ret;exact⟨yK (by rw [b.out];rfl),rfl⟩
 rw [Zf j] at a;by_cases k:r<44032
 ·rw [Zg k] at a;have b:=lh a;clear a;go_wp2;go_ret;exact⟨yK (by rw [b.out];rfl),rfl⟩
 rw [Zf k] at a;have b:=lh a;clear a;have n:wrap32 (r-44032)=r-44032:=by unfold wrap32;omega
 have o:(r-44032).tmod 28=(r-44032) % 28:=Int.tmod_eq_emod_of_nonneg (by omega);by_cases l:(r-44032) % 28=0
 ·go_wp2;go_ret;exact⟨yK (by rw [b.out,Zg l];rfl),rfl⟩
 ·go_wp2;go_ret;exact⟨yK (by rw [b.out,Zf l];rfl),rfl⟩
def Exit.jumps (J:Nat→Act→World→Prop) (Q:Exit→Act→World→Prop):Exit→Act→World→Prop
 | .goto l,a,w=>J l a w
 | e,a,w=>Q e a w
theorem Exit.jumps_ret (J:Nat→Act→World→Prop) (Q:Exit→Act→World→Prop) (a:Act) (w:World):Exit.jumps J Q .ret a w=Q .ret a w:=rfl
theorem yP1 {P:Program} {a:Act} {w:World} {Q:Exit→Act→World→Prop} {c:Code} (rest:Nat→Code) (J:Nat→Act→World→Prop) (μ:Nat→Act→World→Nat) (y:∀l a w,J l a w→findLabel c l=some (rest l))
 (first:c.wp P (Exit.jumps J Q) a w)
 (z:∀l a w,J l a w→(rest l).wp P (Exit.jumps (fun j m w'=>J j m w'∧μ j m w'<μ l a w) Q) a w):(Code.scope c).wp P Q a w:=by
 intro b k cs;have v:∀l a w,J l a w→gotoIn l (.inScope c::k)=some (.code (rest l)::.inScope c::k):=fun l a w h=>by simp [gotoIn,y l a w h]
 have A:∀n l a w,μ l a w=n→J l a w→∃e m w',Q e m w'∧Arrives P (lone (b.at a (.code (rest l)::.inScope c::k)) cs w) b k cs e m w':=by
  intro n
  induction n using Nat.strongRecOn with
  | _ n ih =>
    intro l a w C B;obtain⟨e,f,g,d,i⟩:=z l a w B b (.inScope c::k) cs;cases e with
    | normal=>exact⟨.normal,f,g,d,Steps.trans i (.one step_inScope)⟩
    | exit id=>exact⟨.exit id,f,g,d,fun o p=>i o (by simp [exitTo,p])⟩
    | goto j =>
      obtain⟨x,D⟩:=d;obtain⟨q,r,s,t,u⟩:=ih _ (by omega) j f g rfl x;exact⟨q,r,s,t,.of_steps (i _ (v _ _ _ x)) u⟩
    | ret=>exact⟨_,f,g,d,i⟩
    | panic ch=>exact⟨_,f,g,d,i⟩
    | outgrown=>exact⟨_,f,g,d,i⟩
 obtain⟨e,f,g,d,i⟩:=first b (.inScope c::k) cs
 cases e with
 | normal=>exact⟨.normal,f,g,d,.head step_scope (Steps.trans i (.one step_inScope))⟩
 | exit id=>exact⟨.exit id,f,g,d,fun o p=>.head step_scope (i o (by simp [exitTo,p]))⟩
 | goto j =>
   obtain⟨q,r,s,t,u⟩:=A _ j f g rfl d;exact⟨q,r,s,t,.of_steps (.head step_scope (i _ (v _ _ _ d))) u⟩
 | ret=>exact⟨_,f,g,d,.of_steps (.one step_scope) i⟩
 | panic ch=>exact⟨_,f,g,d,.of_steps (.one step_scope) i⟩
 | outgrown=>exact⟨_,f,g,d,.of_steps (.one step_scope) i⟩
theorem wp_scope_two {P:Program} {a:Act} {w:World} {Q:Exit→Act→World→Prop} {c k z:Code} (d f:Nat) (m:d≠f) (o:findLabel c d=some (.seq .skip k)) (p:findLabel c f=some (.seq .skip z))
 (g j:Act→World→Prop) (μ:Act→World→Nat)
 (first:(∀a w,g a w→k.wp P (Exit.jumps (fun l a w=>(l=d∧g a w)∨(l=f∧j a w)) Q) a w)→c.wp P (Exit.jumps (fun l a w=>(l=d∧g a w)∨(l=f∧j a w)) Q) a w)
 (n:∀a w,g a w→k.wp P (Exit.jumps (fun l i w'=>(l=d∧g i w'∧μ i w'<μ a w)∨(l=f∧j i w')) Q) a w)
 (last:∀a w,j a w→z.wp P (Exit.noGoto Q) a w):(Code.scope c).wp P Q a w:=by
 refine yP1 (fun l=>if l=d then .seq .skip k else .seq .skip z) (fun l a w=>(l=d∧g a w)∨(l=f∧j a w)) (fun l a w=>if l=d then μ a w+1 else 0) (fun l a w h=>?_) (first fun a w h=>?_) (fun l a w h=>?_)
 ·rcases h with ⟨rfl,_⟩ | ⟨rfl,_⟩
  ·rw [o,Zg rfl]
  ·rw [p,Zf (Ne.symm m)]
 ·refine Code.wp_mono (fun e i w' b=>?_) (n a w h);cases e with
  | goto l =>
    rcases b with ⟨rfl,b,_⟩ | ⟨rfl,b⟩
    ·exact .inl ⟨rfl,b⟩
    ·exact .inr ⟨rfl,b⟩
  | _=>exact b
 ·rcases h with ⟨rfl,h⟩ | ⟨rfl,h⟩
  ·simp only [if_true];apply wp_seq;apply wp_skip;show Code.wp P _ _ a w;refine Code.wp_mono (fun e i w' b=>?_) (n a w h);cases e with
   | goto l =>
     rcases b with ⟨rfl,b,q⟩ | ⟨rfl,b⟩
     ·exact⟨.inl ⟨rfl,b⟩,by simp only [if_true];omega⟩
     ·exact⟨.inr ⟨rfl,b⟩,by rw [Zf (Ne.symm m)];omega⟩
   | _=>exact b
  ·rw [Zf (Ne.symm m)];apply wp_seq;apply wp_skip;show Code.wp P _ _ a w;refine Code.wp_mono (fun e i w' b=>?_) (last a w h);cases e with
   | goto l=>exact b.elim
   | _=>exact b
theorem partI_val (r:Int):partI r=0∨partI r=1∨partI r=2∨partI r=4∨partI r=8∨partI r=16:=by
 unfold partI
 repeat' split
 all_goals omega
theorem goes_any (a b:Int) (w:World):Calls Tryz.prog 123 #[.int .i32 a,.int .i32 b] w fun e w'=>e=.returned (.bool (goesB a b))∧w=w':=by
 have d:=lh (part_any a w);have f:=lh (part_any b w);have g:=partI_val a;have h:=partI_val b;obtain⟨V,c⟩:=nm (goesB a b);rw [c];unfold goesB at c;generalize partI a=pa at *;generalize partI b=pb at *;have i:=lh c;clear c;go_enter Tryz.func123,Tryz.ntmps123;go_upto_block 0 with (go_at_call 166;refine d.out.mono ?_;rintro e w' ⟨rfl,hw⟩;subst hw);clear d;rcases g with rfl | rfl | rfl | rfl | rfl | rfl
 all_goals (go_wp2_with (go_at_call 166;refine f.out.mono ?_;rintro e w' ⟨rfl,hw⟩;subst hw))
 all_goals go_ret
 all_goals (refine⟨yAk ?_,rfl⟩;rw [←i.out])
 all_goals (rcases h with rfl | rfl | rfl | rfl | rfl | rfl <;> decide)
theorem yPp (s:ByteArray) (h:¬ s.size=0):s.toList.isEmpty=false:=by
 rw [Lib.toList_data,List.isEmpty_eq_false_iff];intro a;apply h;rw [Lib.size_eq,a];rfl
def yEj (s:ByteArray) (X z:Int) (n at':Nat) (u:Nat→Value):Act:={ tmps:=#[.string s,u 1,u 2,.int .i32 X,.int .i32 z,u 5,.int .i64 n,.int .i64 at',u 8,u 9,u 10,u 11,u 12,u 13,u 14,u 15,u 16,u 17,u 18,u 19,u 20,u 21,u 22,u 23,u 24,u 25,u 26,u 27,u 28,u 29,u 30,u 31,u 32,u 33,u 34,u 35,u 36,u 37,u 38,u 39,u 40,u 41,u 42,u 43,u 44,u 45,u 46,u 47,u 48,u 49,u 50,u 51,u 52,u 53,u 54,u 55,u 56,u 57,u 58,u 59,u 60,u 61,u 62,u 63,u 64,u 65,u 66,u 67,u 68,u 69,u 70,u 71,u 72,u 73,u 74,u 75,u 76,u 77,u 78,u 79,u 80,u 81,u 82,u 83,u 84,u 85,u 86,u 87,u 88,u 89,u 90,u 91,u 92,u 93,u 94,u 95,u 96,u 97,u 98,u 99,u 100,u 101,u 102],defers:=[] }
def yH0 (s:ByteArray) (X:Int) (K:Nat) (u:Nat→Value):Act:={ tmps:=#[.string s,u 1,u 2,.int .i32 X,u 4,u 5,u 6,.int .i64 K,u 8,u 9,u 10,u 11,u 12,u 13,u 14,u 15,u 16,u 17,u 18,u 19,u 20,u 21,u 22,u 23,u 24,u 25,u 26,u 27,u 28,u 29,u 30,u 31,u 32,u 33,u 34,u 35,u 36,u 37,u 38,u 39,u 40,u 41,u 42,u 43,u 44,u 45,u 46,u 47,u 48,u 49,u 50,u 51,u 52,u 53,u 54,u 55,u 56,u 57,u 58,u 59,u 60,u 61,u 62,u 63,u 64,u 65,u 66,u 67,u 68,u 69,u 70,u 71,u 72,u 73,u 74,u 75,u 76,u 77,u 78,u 79,u 80,u 81,u 82,u 83,u 84,u 85,u 86,u 87,u 88,u 89,u 90,u 91,u 92,u 93,u 94,u 95,u 96,u 97,u 98,u 99,u 100,u 101,u 102],defers:=[] }
theorem yEj.mk {s:ByteArray} {X z:Int} {n b:Nat} (a:Act) (h:a=yEj s X z n b (fun i=>a.tmps.getD i undef)):∃u,a=yEj s X z n b u:=⟨_,h⟩
theorem yH0.mk {s:ByteArray} {X:Int} {K:Nat} (a:Act) (h:a=yH0 s X K (fun i=>a.tmps.getD i undef)):∃u,a=yH0 s X K u:=⟨_,h⟩
def NextJ1 (s:ByteArray) (X:Int) (R:Nat) (w:World) (a':Act) (w':World):Prop :=
 ∃(n f at':Nat) (z:Int),n+f=32∧1≤n∧0<at'∧at'≤s.size∧yFr X s f n z at'=R∧Below w w w'∧∃u,a'=yEj s X z n at' u
def NextJ0 (s:ByteArray) (X:Int) (K R:Nat) (w:World) (a':Act) (w':World):Prop :=
 0<s.size∧(if X=13∧1<s.size∧s.get! 1=10 then 2 else K)=R∧Below w w w'∧∃u,a'=yH0 s X K u
theorem yJ (s:ByteArray) (a:Nat) (h:a≤s.size):(s.extract a s.size).size=s.size-a:=by simp [ZV]
theorem yId (s:ByteArray) (w:World) (hT:T8 w) (hs:s.size≤9223372036854775807) :
 Calls Tryz.prog 80 #[s] w fun e w'=>e=.returned (.int .i64 (nextI s:Nat))∧Below w w w':=by
 obtain⟨R,M⟩:=nm (nextI s);rw [M];have m:=lh (yD4 s w hT);obtain⟨X,hX⟩:=nm (yAh s);obtain⟨K,o⟩:=nm (yAa s);have a0:=yCo s;have a5:=yGs s;rw [hX,o] at m;unfold nextI at M;rw [hX,o] at M;rw [o] at a0 a5;have G:=lh M;have N:=lh (fun W (h:Below w w W)=>hT.below rfl h);clear M hX o hT;go_enter Tryz.func80,Tryz.ntmps80;go_wp2;refine wp_scope_two 1 0 (by decide) rfl rfl (NextJ1 s X R w) (NextJ0 s X K R w) (fun a' _=>32-(intOf (a'.tmps.getD 6 undef)).toNat) ?_ ?_ ?_
 ·intro H;by_cases h0:s.size=0
  ·have a:=G.out;rw [Zg h0] at a;have he:s=⟨#[]⟩:=by
    apply qq;exact qv h0
   have d:=lh a;clear a G H N;subst he;go_wp2_with (go_at_call 95;refine m.out.mono ?_;rintro e w1 ⟨rfl,c⟩);rw [Exit.jumps_ret];go_ret;exact⟨yK (by rw [←d.out];rfl),c⟩
  ·have a:=G.out;rw [Zf h0] at a;have p:=lh a;obtain⟨al,b5⟩:=nm (yP6 X);have I:=lh (fun W=>alone_any X W);rw [b5] at I p;clear a G b5 N;have kp:0<K:=a5 (by omega);have c9:=yPp s h0;by_cases i:X=65533
   ·by_cases x:K=1
    ·subst i x;have a:=p.out;rw [Zg (.inl ⟨rfl,rfl⟩)] at a;have d:=lh a;clear a p I H;go_wp2_with (go_at_call 95;refine m.out.mono ?_;rintro e w1 ⟨rfl,c⟩)
     go_step3
     exact .inr ⟨rfl,by omega,d.out,c,yH0.mk _ rfl⟩
    ·subst i;have c2:¬ ((K:Int)=1):=(by omega);cases al with
     | true =>
       have a:=p.out;rw [Zg (.inr rfl)] at a;have d:=lh a;clear a p H;go_wp2_with (first
        | (go_at_call 95;refine m.out.mono ?_;rintro e w1 ⟨rfl,c⟩)
        | (go_at_call 118;refine (I.out _).mono ?_;rintro e F ⟨rfl,j⟩))
       go_step3
       exact .inr ⟨rfl,by omega,d.out,c.trans (j.mono c.size),yH0.mk _ rfl⟩
     | false =>
       have a:=p.out;rw [Zf (by rintro (⟨_,h⟩ | h);exact x h;cases h)] at a;have d:=lh a;clear a p;go_wp2_with (first
        | (go_at_call 95;refine m.out.mono ?_;rintro e w1 ⟨rfl,c⟩)
        | (go_at_call 118;refine (I.out _).mono ?_;rintro e F ⟨rfl,j⟩))
       go_step3
       rename_i a6;exact a6 _ _ (H _ _ ⟨1,31,K,65533,rfl,by omega,kp,a0,d.out,c.trans (j.mono c.size),yEj.mk _ rfl⟩)
   ·cases al with
    | true =>
      have a:=p.out;rw [Zg (.inr rfl)] at a;have d:=lh a;have c1:(X==65533)=false:=(by simpa using i);clear a p H;go_wp2_with (first
       | (go_at_call 95;refine m.out.mono ?_;rintro e w1 ⟨rfl,c⟩)
       | (go_at_call 118;refine (I.out _).mono ?_;rintro e F ⟨rfl,j⟩))
      go_step3
      exact .inr ⟨rfl,by omega,d.out,c.trans (j.mono c.size),yH0.mk _ rfl⟩
    | false =>
      have a:=p.out;rw [Zf (by rintro (⟨h,_⟩ | h);exact i h;cases h)] at a;have d:=lh a;have c1:(X==65533)=false:=(by simpa using i);clear a p;go_wp2_with (first
       | (go_at_call 95;refine m.out.mono ?_;rintro e w1 ⟨rfl,c⟩)
       | (go_at_call 118;refine (I.out _).mono ?_;rintro e F ⟨rfl,j⟩))
      go_step3
      rename_i a6;exact a6 _ _ (H _ _ ⟨1,31,K,X,rfl,by omega,kp,a0,d.out,c.trans (j.mono c.size),yEj.mk _ rfl⟩)
 ·rintro a' wr ⟨n,f,l,z,d0,d2,d3,c3,b,y,u,rfl⟩;unfold yEj;have HM:=lh b;clear b m G a0 a5;cases f with
  | zero =>
    obtain rfl:n=32:=(by omega);go_wp2;rw [Exit.jumps_ret];go_ret;exact⟨yK (by rw [←HM.out];rfl),y⟩
  | succ f =>
    have d4:((n:Int)==32)=false:=(by rw [zN];omega);obtain⟨t,ht⟩:=nm (s.extract l s.size);have d5:t.size=s.size-l:=(by rw [←ht];exact yJ s l c3);obtain⟨Y,hY⟩:=nm (yAh t);obtain⟨k,hk⟩:=nm (yAa t);have c4:=yCo t;have b6:=yGs t;rw [hk] at c4 b6;have m:=lh (yD4 t wr (N.out wr y));rw [hY,hk] at m;have b:=HM.out;rw [yFr,ht,hY,hk] at b;have b7:=lh ht;have d6:(0:Int)≤(l:Int):=(by omega);have d7:(l:Int)≤(s.size:Int):=(by omega);obtain⟨kd,a7⟩:=nm (yDn Y);obtain⟨jy,a8⟩:=nm (yB7 Y);obtain⟨rx,a1⟩:=nm (yA9 X);obtain⟨ry,a2⟩:=nm (yA9 Y);obtain⟨px,a3⟩:=nm (yGe X);obtain⟨py,O⟩:=nm (yGe Y);obtain⟨g,C⟩:=nm (goesB z Y);have o:=lh (fun W=>yIk Y W);have P:=lh (fun W=>yOy Y W);have Q:=lh (fun W=>goes_any z Y W);have b8:goesOn X z Y n=(decide (kd=2)||jy||(decide (n=1)&&rx&&ry)||(decide (z=8205)&&px&&py)||g):=by
     unfold goesOn;rw [a7,a8,a1,a2,a3,O,C]
    rw [b8] at b;rw [a7] at o;rw [a8] at P;rw [C] at Q;have J:=lh b;have a9:=lh a1;have b0:=lh a2;have b1:=lh a3;have b2:=lh O;clear b HM hY hk ht a7 a8 a1 a2 a3 O C b8;go_upto_region 12 with (go_at_call 95;rw [b7.out];refine m.out.mono ?_;rintro e w1 ⟨rfl,c⟩);have D:=y.trans (c.mono y.size);clear c m b7 N;by_cases ea:l=s.size
    ·subst ea;have b:=J.out;rw [Zg (.inl rfl)] at b;have b3:=lh b;clear b J o P Q a9 b0 b1 b2;go_wp2;rw [Exit.jumps_ret];go_ret;exact⟨yK (by rw [b3.out]),D⟩
    have ca:((l:Int)==(s.size:Int))=false:=(by rw [zN];omega);by_cases S:Y=65533∧k=1
    ·obtain⟨S,T⟩:=S;subst S T;have b:=J.out;rw [Zg (.inr ⟨rfl,rfl⟩)] at b;have b3:=lh b;clear b J o P Q a9 b0 b1 b2;go_wp2;rw [Exit.jumps_ret];go_ret;exact⟨yK (by rw [b3.out]),D⟩
    have b:=J.out;rw [Zf (fun h=>h.elim ea S)] at b;have A:=lh b;clear b J;have d8:0<k:=by
     have:=b6 (by omega);omega
    have d9:wrap64 ((n:Int)+1)=(n:Int)+1:=(by unfold wrap64;omega);have e0:wrap64 ((l:Int)+(k:Int))=(l:Int)+(k:Int):=(by unfold wrap64;omega);go_cut [38] (fun v U=>v=.bool false∧U=w1)
    case first =>
     by_cases i:Y=65533
     ·subst i;have c2:((k:Int)==1)=false:=by
       rw [zN];intro h;exact S ⟨rfl,by omega⟩
      go_wp2;go_meet;exact⟨by first | rfl | simp,rfl⟩
     ·have c1:(Y==65533)=false:=(by simpa using i);go_wp2;go_meet;exact⟨by first | rfl | simp,rfl⟩
    case rest =>
     obtain⟨rfl,V⟩:=hcut;have b4:=V.symm;clear V;subst b4;by_cases T:kd=2
     ·subst T;go_wp2_with (go_at_call 119;refine (o.out _).mono ?_;rintro e F ⟨rfl,j⟩);have r:=D.trans (j.mono D.size)
      go_step3
      exact .inl ⟨rfl,⟨n+1,f,l+k,Y,by omega,by omega,by omega,by omega,(Zg (by simp)).symm.trans A.out,r,yEj.mk _ rfl⟩,by simp [intOf];omega⟩
     have ck:(kd==2)=false:=(by simpa using T);cases jy with
     | true =>
       go_wp2_with (first
        | (go_at_call 119;refine (o.out _).mono ?_;rintro e F ⟨rfl,j⟩)
        | (go_at_call 120;refine (P.out _).mono ?_;rintro e w' ⟨rfl,B⟩;subst B))
       have r:=D.trans (j.mono D.size)
       go_step3
       exact .inl ⟨rfl,⟨n+1,f,l+k,Y,by omega,by omega,by omega,by omega,(Zg (by simp)).symm.trans A.out,r,yEj.mk _ rfl⟩,by simp [intOf];omega⟩
     | false =>
       go_upto_region 16 with (first
        | (go_at_call 119;refine (o.out _).mono ?_;rintro e F ⟨rfl,j⟩)
        | (go_at_call 120;refine (P.out _).mono ?_;rintro e w' ⟨rfl,B⟩;subst B))
       have r:=D.trans (j.mono D.size);clear j;go_cut [58] (fun v U=>v=.bool (decide (n=1)&&rx&&ry)∧U=F)
       case first =>
        by_cases E:n=1
        ·have d1:((n:Int)==1)=true:=(by rw [E];rfl);have H1:=lh E;clear E;have a1:=a9.out;have a2:=b0.out;cases rx <;> cases ry
         all_goals (go_wp2_with (go_at_call 121;refine (regional_any _ _).mono ?_;rintro e w' ⟨rfl,B⟩;subst B))
         all_goals go_meet
         all_goals exact⟨by simp [H1.out],rfl⟩
        ·have d1:((n:Int)==1)=false:=(by rw [zN];omega);go_wp2;go_meet;exact⟨by simp [E],rfl⟩
       case rest =>
        obtain⟨rfl,V⟩:=hcut;have b4:=V.symm;clear V;subst b4;obtain⟨c5,b9⟩:∃q,(decide (n=1)&&rx&&ry)=q:=⟨_,rfl⟩;rw [b9] at A ⊢;clear b9;cases c5 with
        | true =>
          go_wp2
          go_step3
          exact .inl ⟨rfl,⟨n+1,f,l+k,Y,by omega,by omega,by omega,by omega,(Zg (by simp)).symm.trans A.out,r,yEj.mk _ rfl⟩,by simp [intOf];omega⟩
        | false =>
          go_upto_region 17 with fail;go_cut [69] (fun v U=>v=.bool (decide (z=8205)&&px&&py)∧Below w w U)
          case first =>
           by_cases E:z=8205
           ·subst E;have a3:=b1.out;have O:=b2.out;cases px with
            | true =>
              go_wp2_with (first
               | (go_at_call 122;have e4:=a4;refine (yH4 _ _).mono ?_;rintro e w4 ⟨rfl,c6⟩)
               | (go_at_call 122;refine (yH4 _ _).mono ?_;rintro e w3 ⟨rfl,a4⟩))
              go_meet;have L:=r.trans (a4.mono r.size);exact⟨by simp [O],L.trans (c6.mono L.size)⟩
            | false =>
              go_wp2_with (go_at_call 122;refine (yH4 _ _).mono ?_;rintro e w3 ⟨rfl,a4⟩);go_meet;exact⟨by simp,r.trans (a4.mono r.size)⟩
           ·have d1:(z==8205)=false:=(by simpa using E);go_wp2;go_meet;exact⟨by simp [E],r⟩
          case rest =>
           obtain⟨rfl,L⟩:=hcut;obtain⟨c7,c0⟩:∃q,(decide (z=8205)&&px&&py)=q:=⟨_,rfl⟩;rw [c0] at A ⊢;clear c0;cases c7 with
           | true =>
             go_wp2
             go_step3
             exact .inl ⟨rfl,⟨n+1,f,l+k,Y,by omega,by omega,by omega,by omega,(Zg (by simp)).symm.trans A.out,L,yEj.mk _ rfl⟩,by simp [intOf];omega⟩
           | false =>
             cases g with
             | true =>
               go_wp2_with (go_at_call 123;refine (Q.out _).mono ?_;rintro e w' ⟨rfl,B⟩;subst B)
               go_step3
               exact .inl ⟨rfl,⟨n+1,f,l+k,Y,by omega,by omega,by omega,by omega,(Zg (by simp)).symm.trans A.out,L,yEj.mk _ rfl⟩,by simp [intOf];omega⟩
             | false =>
               have b:=A.out;rw [Zf (by simp [T])] at b;have c8:=lh b;clear b A;go_wp2_with (go_at_call 123;refine (Q.out _).mono ?_;rintro e w' ⟨rfl,B⟩;subst B);rw [Exit.jumps_ret];go_ret;exact⟨yK (by rw [c8.out]),L⟩
 ·rintro a' wr ⟨e5,a,y,u,rfl⟩;unfold yH0;have d:=lh a;clear a m G N;by_cases i:X=13
  ·by_cases x:1<s.size
   ·have g2:(s.size:Int) > 1:=(by omega);have C:s.get! 1=s[1]'x:=Utf8W.get!_of_lt s 1 x;by_cases e3:s.get! 1=10
    ·subst i;have HG:=lh C;have Z:=lh e3;clear C e3;have g3:(((s[1]'x).toNat:Int)==10)=true:=(by rw [←HG.out,Z.out];rfl);go_wp2;go_ret;exact⟨yK (by rw [←d.out,Zg ⟨by first | rfl | trivial,x,Z.out⟩];rfl),y⟩
    ·subst i;have HG:=lh C;have Z:=lh e3;clear C e3;have g3:(((s[1]'x).toNat:Int)==10)=false:=by
      rw [zN];intro h;apply Z.out;rw [HG.out];exact UInt8.toNat_inj.1 (by show _=10;omega)
     go_wp2;go_ret;exact⟨yK (by rw [←d.out,Zf (fun h=>Z.out h.2.2)]),y⟩
   ·subst i;have g2:¬ (s.size:Int) > 1:=(by omega);go_wp2;go_ret;exact⟨yK (by rw [←d.out,Zf (fun h=>x h.2.1)]),y⟩
  ·have c1:(X==13)=false:=(by simpa using i);go_wp2;rw [Exit.noGoto_ret];go_ret;exact⟨yK (by rw [←d.out,Zf (fun h=>i h.1)]),y⟩
end
section
open Go.RowKit Go.Proofs Go.Shelf
attribute [local go_sem] qV
theorem T8.keep {a:Nat} {w w':World} (h:T8 w) (f:Tryz.lays197_ren.g 3<a) (d:Tryz.lays197_ren.g 4<a) (b:Below a w w'):T8 w' :=
 ⟨fun c j=>yB b f (h.1 c j),fun i e=>⟨yB b d (h.2 i e).1,yB b d (h.2 i e).2⟩⟩
theorem yGi (x:Int) (s:ByteArray):∀(f n:Nat) (z:Int) (a:Nat),a≤s.size→a≤yFr x s f n z a∧yFr x s f n z a≤s.size
 | 0,n,z,a,h=>⟨zT _,h⟩
 | f+1,n,z,a,h=>by
   rw [yFr];split
   ·exact⟨zT _,h⟩
   split
   ·have b:=yCo (s.extract a s.size);rw [yJ s a h] at b;have:=yGi x s f (n+1) (yAh (s.extract a s.size)) (a+yAa (s.extract a s.size)) (by omega);omega
   ·exact⟨zT _,h⟩
theorem yY (s:ByteArray) (h:0<s.size):0<nextI s∧nextI s≤s.size:=by
 have a:=yCo s;have b:=yGs s h;unfold nextI;rw [Zf (by omega)];split
 ·split
  ·omega
  ·omega
 ·have:=yGi (yAh s) s 31 1 (yAh s) (yAa s) a;omega
theorem less_away {a m e k:Nat} (h:a+m=e) (b:0<m) (c:a<k):k-e<k-a:=by omega
abbrev yO (s:ByteArray):Type:={ x:Nat × ByteArray // x.1+x.2.size≤s.size }
def KpB (Bn n₀:Nat) (W W':World):Prop:=Below n₀ W W'∧∀v,W.cell? ⟨Bn,0,none⟩=some v→W'.cell? ⟨Bn,0,none⟩=some v
theorem KpB.trans {a b:Nat} {A B C:World} (h:KpB a b A B) (k:KpB a b B C):KpB a b A C:=⟨h.1.trans k.1,fun v c=>k.2 v (h.2 v c)⟩
abbrev yPy (x:Nat × ByteArray):Array Value:=#[.int .i64 x.1,.string x.2]
theorem pieces1_in (n:Nat) (hn:1≤n) (l j h:Nat) (s:ByteArray) (hs:s.size≤9223372036854775807) (I:Tryz.lays197_ren.g 3<h) (K:Tryz.lays197_ren.g 4<h) (J L:List (yO s)→World→Prop) (W:World) (a1:h≤W.heap.size) (M:AbidesFrom W.heap.size J)
 (N:∀pre x A,J pre A→pre.length<(yF s).length→YieldAt Fence.wide (n-1) Tryz.prog l (yPy x.1) A fun e i =>
   (e=.returned (.bool true)∧J (pre++[x]) i∧KpB j h A i)∨(e=.returned (.bool false)∧L (pre++[x]) i))
 (a2:W.cell? ⟨j,0,none⟩=some (.string s)) (O:T8 W) (h0:J [] W) :
 CallsIn Fence.wide n Tryz.prog 124 #[.func (.yield l) #[] #[],.pointer (some ⟨j,0,none⟩)] W fun e i=>(∃v,e=.returned v) ∧
  ((∃P:List (yO s),P.map (·.1)=yF s∧J P i)∨(∃pre:List (yO s),pre.map (·.1) <+: yF s∧L pre i)):=by
 have a3:=lh (fun (w':World) (k:Below h W w')=>O.keep I K k);have HY:=lh N;have HJ:=lh M;clear I K O N M;refine callsIn_of_wp Tryz.func124 rfl trivial ?_ rfl;simp only [Tryz.ntmps124,qW,zb,zn,Nat.reduceAdd,Nat.reduceSub,qX,qY,qZ,qd,zp,zo]
 gi_wp2
 gi_loopw [3,4] (fun u3 _ wr=>∃(a f:Nat) (pre:List (yO s)),u3=.int .i64 a∧a≤s.size∧s.size≤a+f∧yF s=pre.map (·.1)++piecesF s f a∧J pre wr∧Below h W wr∧wr.cell? ⟨j,0,none⟩=some (.string s))
  (fun u3 _ _=>s.size-(intOf u3).toNat)
 case atStart=>exact⟨0,s.size,[],rfl,zd _,by omega,rfl,h0,Zc _ _,a2⟩
 case round =>
  obtain⟨a,f,pre,rfl,ha,Q,d,R,k,S⟩:=hrel;by_cases T:a<s.size
  ·obtain⟨t,u⟩:=nm (s.extract a s.size);have U:t.size=s.size-a:=(by rw [←u];exact yJ s a ha);have B:=yY t (by omega);obtain⟨m,w⟩:=nm (nextI t);obtain⟨f,rfl⟩:∃g,f=g+1:=⟨f-1,by omega⟩;rw [piecesF,Zg T,u,w] at d;rw [w] at B;obtain⟨e,C⟩:=nm (a+m);rw [C] at d;obtain⟨c,y⟩:=nm (s.extract a e);rw [y] at d;have V:=lh (yId t wr (a3.out wr k) (by omega));rw [w] at V;have a4:a+c.size≤s.size:=(by rw [←y];simp [ZV];omega);obtain⟨o,X⟩:∃o:yO s,o.1=(a,c):=⟨⟨(a,c),a4⟩,rfl⟩;have D:=lh X;clear X;have Y:pre.length<(yF s).length:=(by rw [d,zJ,zb,zK];omega);have z:=lh d;have HT:=lh u;have HC:=lh y;have HL:=lh Y;have g0:(0:Int)≤(a:Int):=(by omega);have g1:(a:Int)<(s.size:Int):=(by omega);have g2:(a:Int)≤(s.size:Int):=(by omega);have g3:(e:Int)≤(s.size:Int):=(by omega);have g4:(a:Int)≤(e:Int):=(by omega);have ge:(0:Int)≤(e:Int):=(by omega);have E:wrap64 ((a:Int)+(m:Int))=(e:Int):=(by unfold wrap64;omega);have Z:=lh C;have HB:=lh B;have HZ:=lh U;have HF:=lh Q;clear d u w y Y C B U Q;gi_wp2;refine⟨trivial,?_⟩;rw [HT.out];refine (qG.2 V.out).mono ?_;rintro e' F ⟨rfl,b⟩;have a5:=HJ.out pre wr F none R ⟨b.os,b.tape,b.output,b.size,fun q hq _=>b.block q hq⟩ (fun r e=>by cases e);have a6:F.cell? ⟨j,0,none⟩=some (.string s):=yB b (yD S) S;obtain⟨fn,b1,assign,body,p,hR⟩:=HY.out pre o F a5 HL.out;rw [D.out] at p;dsimp only [yPy] at p;rw [←HC.out] at p;have G:=lh hR;clear hR;gi_wp2;refine G.out.mono ?_;rintro e' W3 (⟨rfl,a7,H⟩ | ⟨rfl,a8⟩)
   ·have a9:=k.trans ((b.mono (zY a1 k.size)).trans H.1);have b0:=H.2 _ a6;clear p G b H;gi_wp2;go_roundw
    case rel=>exact⟨e,f,pre++[o],by first | rfl | rw [E] | simp [E],by omega,by have:=HF.out;have:=Z.out;have:=HB.out;omega,by rw [z.out,zW,zZ,Zd,D.out];rfl,a7,a9,b0⟩
    case measure =>
     have e1:(intOf (Value.int IntKind.i64 (wrap64 ((a:Int)+(m:Int))))).toNat=e:=(by rw [E];rfl);have e2:(intOf (Value.int IntKind.i64 (a:Int))).toNat=a:=rfl;rw [e1,e2];exact less_away Z.out HB.out.1 T
   ·clear p G b;gi_wp2;refine qC (results_none rfl _ _ _) rfl ?_;exact⟨⟨_,rfl⟩,.inr ⟨pre++[o],⟨piecesF s f e,by rw [z.out,zW,zZ,Zd,D.out];rfl⟩,a8⟩⟩
  ·obtain rfl:a=s.size:=(by omega);have a0:yF s=pre.map (·.1):=by
    rw [d];cases f with
    | zero=>rw [piecesF,zq]
    | succ f=>rw [piecesF,Zf (by omega),zq]
   have z:=lh a0;clear d a0;gi_wp2
   go_end0
   exact⟨⟨_,rfl⟩,.inl ⟨pre,z.out.symm,R⟩⟩
theorem yBf (n:Nat) (i:1≤n) (b a:Nat) (s:ByteArray) (j:s.size≤9223372036854775807) (d:Tryz.lays197_ren.g 3<a) (e:Tryz.lays197_ren.g 4<a) (w:World) (f:a≤w.heap.size)
 (h:w.cell? ⟨b,0,none⟩=some (.string s)) (k:T8 w) :
 SeqStopsK Fence.wide n Tryz.prog 124 #[.pointer (some ⟨b,0,none⟩)] (fun x:yO s=>yPy x.1) (KpB b a) (fun xs=>xs.map (·.1)=yF s) (fun pre=>pre.map (·.1) <+: yF s) (yF s).length w:=fun l J m W c o r p h0=>by
 have q:Below a w W:=c.mono f;exact pieces1_in n i l b a s j d e J m W (zY f c.size) o p (yB c (yD h) h) (k.keep d e q) h0
def itV (B:Nat):Value:=.func (.func 124) #[] #[.pointer (some ⟨B,0,none⟩)]
theorem yG1 (s:ByteArray) (w:World) :
 Calls Tryz.prog 82 #[s] w fun e w'=>e=.returned (itV w.heap.size)∧w'=w.alloc (.cells #[s] 9):=by
 have b:∀(a:Fn) (first cap:Array Value) (w:World),(Instr.makeFunc a first cap).run Tryz.prog w=.ok (.func a first cap) w:=fun _ _ _ _=>rfl;go_enter Tryz.func82,Tryz.ntmps82;go_wp2;go_ret;exact⟨rfl,rfl⟩
theorem yIy (s:ByteArray) (w:World) :
 Calls Tryz.prog 57 #[s] w fun e w'=>e=.returned (itV w.heap.size)∧w'=w.alloc (.cells #[s] 9):=by
 have a:=lh (yG1 s w);go_enter Tryz.func57,Tryz.ntmps57;go_wp2_with (go_at_call 82;refine a.out.mono ?_;rintro e w1 ⟨rfl,rfl⟩);go_ret;exact⟨rfl,rfl⟩
end
section
open Go.RowKit Go.Proofs
theorem bkind_any (c:ByteArray) (w:World) (p:T8 w):Calls Tryz.prog 58 #[c] w fun e w'=>e=.returned (.int .i8 (yz c))∧Below w w w':=by
 obtain⟨X,g⟩:=nm (yAh c);obtain⟨K,i⟩:=nm (yAa c);obtain⟨b,j⟩:=nm (yEn X);obtain⟨V,k⟩:=nm (yz c);have q:V=if b=8∨(X=65533∧K=1) then 0 else b:=by rw [←k];unfold yz;rw [g,i,j]
 have a:=lh q;have l:=lh (yD4 c w p);have m:=lh (fun W=>yJl X W);rw [k];rw [g,i] at l;rw [j] at m;clear k q g i j p;go_enter Tryz.func58,Tryz.ntmps58;go_upto_region 3 with (first
  | (go_at_call 95;refine l.out.mono ?_;rintro e w1 ⟨rfl,n⟩)
  | (go_at_call 96;refine (m.out _).mono ?_;rintro e t ⟨rfl,r⟩))
 have d:=n.trans (r.mono n.size);clear n r l m;by_cases f:b=8
 ·subst f;go_wp2;go_ret;exact⟨yK (by rw [a.out];rfl),d⟩
 have u:(b==8)=false:=by simpa using f
 by_cases o:X=65533
 ·subst o;by_cases s:K=1
  ·subst s;go_wp2;go_ret;exact⟨yK (by rw [a.out,Zg (.inr ⟨by first | rfl | trivial,by first | rfl | trivial⟩)]),d⟩
  ·have v:((K:Int)==1)=false:=(by rw [zN];omega);go_wp2;go_ret;exact⟨yK (by rw [a.out,Zf (fun h=>h.elim f (fun h=>s h.2))]),d⟩
 ·have x:(X==65533)=false:=(by simpa using o);go_wp2;go_ret;exact⟨yK (by rw [a.out,Zf (fun h=>h.elim f (fun h=>o h.1))]),d⟩
def yQd (c:ByteArray):Bool:=(decide (yAh c≠65533)||decide (1<yAa c))&&decide (yEn (yAh c)=1)
theorem blank_any (c:ByteArray) (w:World) (m:T8 w):Calls Tryz.prog 101 #[c] w fun e w'=>e=.returned (.bool (yQd c))∧Below w w w':=by
 obtain⟨X,d⟩:=nm (yAh c);obtain⟨K,f⟩:=nm (yAa c);obtain⟨b,g⟩:=nm (yEn X);obtain⟨V,h⟩:=nm (yQd c);have n:V=((decide (X≠65533)||decide (1<K))&&decide (b=1)):=by rw [←h];unfold yQd;rw [d,f,g]
 have i:=lh n;have o:=lh (yD4 c w m);have j:=lh (fun W=>yJl X W);rw [h];rw [d,f] at o;rw [g] at j;clear h n d f g m;go_enter Tryz.func101,Tryz.ntmps101;go_upto_region 2 with (go_at_call 95;refine o.out.mono ?_;rintro e w1 ⟨rfl,a⟩);by_cases k:X=65533
 ·subst k;by_cases p:1<K
  ·have q:(K:Int) > 1:=(by omega);go_wp2_with (go_at_call 96;refine (j.out _).mono ?_;rintro e r ⟨rfl,l⟩);go_ret;exact⟨yAk (by rw [i.out,ZY];simp [p]),a.trans (l.mono a.size)⟩
  ·have q:¬ (K:Int) > 1:=(by omega);go_wp2;go_ret;exact⟨yAk (by rw [i.out];simp [p]),a⟩
 ·have s:(X != 65533)=true:=(by simpa using k);go_wp2_with (go_at_call 96;refine (j.out _).mono ?_;rintro e r ⟨rfl,l⟩);go_ret;exact⟨yAk (by rw [i.out,ZY];simp [k]),a.trans (l.mono a.size)⟩
end
section
open Go.RowKit Go.Proofs Go.Shelf
attribute [local go_sem] qV
theorem yNy (s:ByteArray):∀(f a:Nat),(piecesF s f a).length≤f
 | 0,a=>zT _
 | f+1,a=>by
   rw [piecesF];split
   ·rw [zb];exact Nat.succ_le_succ (yNy s f _)
   ·exact zd _
theorem yAj (s:ByteArray):(yF s).length≤s.size:=yNy s s.size 0
theorem yEy {w:World} {d b:Nat} (f:b≤w.heap.size) (W:World) (l:Nat) (o a:Obj) (g:w.heap.size≤l) (h:W.heap[l]? = some o) (c:o.isCells=false) (hw:o.isWalk=false):KpB d b W (W.putObj l a) :=
 ⟨JY f W l o a g h c hw,fun v i=>cell_kept i (qE W l a) (fun r e=>by cases e;exact⟨o,h,c⟩)⟩
end
section
open Go.RowKit Go.Proofs
abbrev yGo (a b s:Int):Value:=.agg #[.int .i8 a,.int .i8 b,.int .i8 s]
def yMz (c:Bool) (w:World) (e:Ending) (w':World):Prop:=e=.returned (.bool c)∧Below w w w'
theorem yCk (a b s:Int) (w:World):Calls Tryz.prog 107 #[yGo a b s] w (yMz (decide (a=1)) w):=by
 go_enter Tryz.func107,Tryz.ntmps107;go_wp2
 all_goals go_ret
 all_goals (refine⟨yAk ?_,(Zc _ _).alloc (zT _) _⟩;rw [ZY];simp)
theorem rule0_any (a b s:Int) (w:World):Calls Tryz.prog 151 #[yGo a b s] w (yMz (decide (a=2)) w):=by
 go_enter Tryz.func151,Tryz.ntmps151;go_wp2
 all_goals go_ret
 all_goals (refine⟨yAk ?_,(Zc _ _).alloc (zT _) _⟩;rw [ZY];simp;try omega)
theorem rule1_any (a b s:Int) (w:World):Calls Tryz.prog 152 #[yGo a b s] w (yMz (decide (b=2∨b=1∨b=9)) w):=by
 go_enter Tryz.func152,Tryz.ntmps152;go_wp2
 all_goals go_ret
 all_goals (refine⟨yAk ?_,(Zc _ _).alloc (zT _) _⟩;rw [ZY];simp;try omega)
theorem rule2_any (a b s:Int) (w:World):Calls Tryz.prog 153 #[yGo a b s] w (yMz (decide (s=9)) w):=by
 go_enter Tryz.func153,Tryz.ntmps153;go_wp2
 all_goals go_ret
 all_goals (refine⟨yAk ?_,(Zc _ _).alloc (zT _) _⟩;rw [ZY];simp;try omega)
theorem rule3_any (a b s:Int) (w:World):Calls Tryz.prog 154 #[yGo a b s] w (yMz (decide (a=12∨b=12∨a=5)) w):=by
 go_enter Tryz.func154,Tryz.ntmps154;go_wp2
 all_goals go_ret
 all_goals (refine⟨yAk ?_,(Zc _ _).alloc (zT _) _⟩;rw [ZY];simp;try omega)
theorem rule5_any (a b s:Int) (w:World):Calls Tryz.prog 156 #[yGo a b s] w (yMz (decide (b=4∨s=3)) w):=by
 go_enter Tryz.func156,Tryz.ntmps156;go_wp2
 all_goals go_ret
 all_goals (refine⟨yAk ?_,(Zc _ _).alloc (zT _) _⟩;rw [ZY];simp;try omega)
theorem rule8_any (a b s:Int) (w:World):Calls Tryz.prog 158 #[yGo a b s] w (yMz (decide (b=6)) w):=by
 go_enter Tryz.func158,Tryz.ntmps158;go_wp2
 all_goals go_ret
 all_goals (refine⟨yAk ?_,(Zc _ _).alloc (zT _) _⟩;rw [ZY];simp;try omega)
theorem rule9_any (a b s:Int) (w:World):Calls Tryz.prog 159 #[yGo a b s] w (yMz (decide (a=6∧b=10)) w):=by
 go_enter Tryz.func159,Tryz.ntmps159;go_wp2
 all_goals go_ret
 all_goals (refine⟨yAk ?_,(Zc _ _).alloc (zT _) _⟩;rw [ZY];simp;try omega)
theorem rule10_any (a b s:Int) (w:World):Calls Tryz.prog 160 #[yGo a b s] w (yMz (decide (a=6)) w):=by
 go_enter Tryz.func160,Tryz.ntmps160;go_wp2
 all_goals go_ret
 all_goals (refine⟨yAk ?_,(Zc _ _).alloc (zT _) _⟩;rw [ZY];simp;try omega)
theorem rule11_any (a b s:Int) (w:World):Calls Tryz.prog 161 #[yGo a b s] w (yMz (decide (a=7∨b=7)) w):=by
 go_enter Tryz.func161,Tryz.ntmps161;go_wp2
 all_goals go_ret
 all_goals (refine⟨yAk ?_,(Zc _ _).alloc (zT _) _⟩;rw [ZY];simp;try omega)
theorem rule4_any (a b s:Int) (w:World):Calls Tryz.prog 155 #[yGo a b s] w (yMz (decide (b=5∧a≠1∧a≠6)) w):=by
 have i:=qal w (.cells #[.int .i8 a,.int .i8 b,.int .i8 s] 186);have j:(w.alloc (.cells #[.int .i8 a,.int .i8 b,.int .i8 s] 186)).cell? ⟨w,0,none⟩=some (.int .i8 a):=by unfold World.cell?;rw [JS];rfl
 have c:=lh i;have f:=lh j;clear i j;go_enter Tryz.func155,Tryz.ntmps155;by_cases g:b=5
 ·subst g;by_cases h:a=1
  ·subst h;go_wp2_with (go_at_call 107;refine (yCk _ _ _ _).mono ?_;rintro e w1 ⟨rfl,d⟩;have k:=yB d (yD f.out) f.out);go_ret;exact⟨yAk (by simp),c.out.trans (d.mono c.out.size)⟩
  ·go_wp2_with (go_at_call 107;refine (yCk _ _ _ _).mono ?_;rw [zP h];rintro e w1 ⟨rfl,d⟩;have k:=yB d (yD f.out) f.out);go_ret;exact⟨yAk (by rw [ZY];simp [h]),c.out.trans (d.mono c.out.size)⟩
 ·have l:(b==5)=false:=(by simpa using g);go_wp2;go_ret;exact⟨yAk (by simp [g]),c.out⟩
theorem rule6_any (a b s:Int) (w:World):Calls Tryz.prog 157 #[yGo a b s] w (yMz (decide (b=11∧a≠1)) w):=by
 have i:=qal w (.cells #[.int .i8 a,.int .i8 b,.int .i8 s] 186);have j:(w.alloc (.cells #[.int .i8 a,.int .i8 b,.int .i8 s] 186)).cell? ⟨w,0,none⟩=some (.int .i8 a):=by unfold World.cell?;rw [JS];rfl
 have c:=lh i;have f:=lh j;clear i j;go_enter Tryz.func157,Tryz.ntmps157;by_cases g:b=11
 ·subst g;by_cases h:a=1
  ·subst h;go_wp2_with (go_at_call 107;refine (yCk _ _ _ _).mono ?_;rintro e w1 ⟨rfl,d⟩;have k:=yB d (yD f.out) f.out);go_ret;exact⟨yAk (by simp),c.out.trans (d.mono c.out.size)⟩
  ·go_wp2_with (go_at_call 107;refine (yCk _ _ _ _).mono ?_;rw [zP h];rintro e w1 ⟨rfl,d⟩;have k:=yB d (yD f.out) f.out);go_ret;exact⟨yAk (by rw [ZY];simp [h]),c.out.trans (d.mono c.out.size)⟩
 ·have l:(b==11)=false:=(by simpa using g);go_wp2;go_ret;exact⟨yAk (by simp [g]),c.out⟩
end
section
open Go.RowKit Go.Proofs Go.Shelf
attribute [local go_sem] qV
def yN5:Nat→Nat
 | 0=>151 | 1=>152 | 2=>153 | 3=>154 | 4=>155 | 5=>156
 | 6=>157 | 7=>107 | 8=>158 | 9=>159 | 10=>160 | _=>161
def yKa:Nat→Int
 | 0=>2 | 1=>0 | 2=>1 | 3=>0 | 4=>0 | 5=>0 | 6=>0 | 7=>1 | 8=>0 | 9=>0 | 10=>1 | _=>1
def rulB (a b s:Int):Nat→Bool
 | 0=>decide (a=2) | 1=>decide (b=2∨b=1∨b=9) | 2=>decide (s=9) | 3=>decide (a=12∨b=12∨a=5) | 4=>decide (b=5∧a≠1∧a≠6) | 5=>decide (b=4∨s=3)
 | 6=>decide (b=11∧a≠1) | 7=>decide (a=1) | 8=>decide (b=6) | 9=>decide (a=6∧b=10) | 10=>decide (a=6) | _=>decide (a=7∨b=7)
def rulL (a b s acc:Int):Nat→Nat→Int
 | 0,_=>acc
 | m+1,i=>if rulB a b s i=true then yKa i else rulL a b s acc m (i+1)
theorem rulL_all (a b s:Int):rulL a b s 0 12 0=yNz a b s:=by
 unfold yNz;simp only [rulL,rulB,yKa,ZX]
def yGh:List Value:=(List.range 12).flatMap fun i=>[.func (.func (yN5 i)) #[] #[],.int .i8 (yKa i)]
theorem brules_any (w:World):Calls Tryz.prog 106 #[] w fun e w'=>e=.returned (.slice (some ⟨w,0,none⟩) 12 12)∧w'=w.alloc (.cells yGh.toArray 189):=by
 go_enter Tryz.func106,Tryz.ntmps106;go_wp2;go_ret;exact⟨rfl,rfl⟩
theorem rule_any (i:Nat) (c:i<12) (a b s:Int) (w:World):Calls Tryz.prog (yN5 i) #[yGo a b s] w (yMz (rulB a b s i) w):=by
 have:i=0∨i=1∨i=2∨i=3∨i=4∨i=5∨i=6∨i=7∨i=8∨i=9∨i=10∨i=11:=by omega
 rcases this with rfl | rfl | rfl | rfl | rfl | rfl | rfl | rfl | rfl | rfl | rfl | rfl
 ·exact rule0_any a b s w
 ·exact rule1_any a b s w
 ·exact rule2_any a b s w
 ·exact rule3_any a b s w
 ·exact rule4_any a b s w
 ·exact rule5_any a b s w
 ·exact rule6_any a b s w
 ·exact yCk a b s w
 ·exact rule8_any a b s w
 ·exact rule9_any a b s w
 ·exact rule10_any a b s w
 ·exact rule11_any a b s w
def yIs:List Int→List Int
 | []=>[]
 | k::t=>yHk t k (if k=1 then -1 else k)
theorem yP3 (s:ByteArray):ye s=yIs ((yF s).map (fun p=>yz p.2)):=by
 unfold ye yIs;split <;> simp_all
theorem yGv:∀(l:List Int) (a c:Int),(yHk l a c).length=l.length+1
 | [],_,_=>rfl
 | b::t,a,c=>by rw [yHk,zb,yGv t,zb]
def Whr (L:List Int) (a so:Int) (fst:Bool) (out:List Int):Prop :=
 (L=[]∧fst=true∧so = -1∧a=0∧out=[])∨(L≠[]∧fst=false∧∀R,yIs (L++R)=out++yHk R a so)
theorem whr_len {L:List Int} {a d:Int} {e:Bool} {c:List Int} (h:Whr L a d e c):c.length=L.length-1:=by
 rcases h with ⟨rfl,_,_,_,rfl⟩ | ⟨f,_,h⟩
 ·rfl
 ·have:=h [];rw [zq] at this;have b:=Zb List.length this;rw [zJ,yGv] at b;cases L with
  | nil=>exact qF rfl f
  | cons k t=>rw [yIs,yGv] at b;simp at b ⊢;omega
theorem whr_first {c a:Int} {L d:List Int} (h:Whr L a c true d) (b:Int):Whr (L++[b]) b (if b=1 then c else b) false d:=by
 rcases h with ⟨rfl,_,rfl,rfl,rfl⟩ | ⟨_,h,_⟩
 ·exact .inr ⟨by simp,rfl,fun R=>rfl⟩
 ·cases h
theorem whr_next {c a:Int} {L d:List Int} (h:Whr L a c false d) (b:Int):Whr (L++[b]) b (if b=1 then c else b) false (d++[yNz a b c]):=by
 rcases h with ⟨_,h,_⟩ | ⟨e,_,h⟩
 ·cases h
 ·exact .inr ⟨by simp,rfl,fun R=>by rw [zZ,h,ZN,yHk,zZ,ZN]⟩
theorem whr_done {c a:Int} {L b:List Int} (h:Whr L a c false b):yIs L=b++[if a=2 then 2 else 0]:=by
 rcases h with ⟨_,h,_⟩ | ⟨d,_,h⟩
 ·cases h
 ·have:=h []
  rwa [zq] at this
theorem whr_nil {b a:Int} {L c:List Int} (h:Whr L a b true c):yIs L=[]:=by
 rcases h with ⟨rfl,_⟩ | ⟨_,h,_⟩
 ·rfl
 ·cases h
theorem rul_get (i:Nat) (a:i<12):yGh[i*2]? = some (.func (.func (yN5 i)) #[] #[])∧yGh[i*2+1]? = some (.int .i8 (yKa i)):=by
 have:i=0∨i=1∨i=2∨i=3∨i=4∨i=5∨i=6∨i=7∨i=8∨i=9∨i=10∨i=11:=by omega
 rcases this with rfl | rfl | rfl | rfl | rfl | rfl | rfl | rfl | rfl | rfl | rfl | rfl <;> exact⟨rfl,rfl⟩
def WhB (s:ByteArray) (n:Nat) (W:World) (a b so:Int) (fst:Bool) (v:Value) (out:List Int):Prop :=
 W.heap[n]? = some (.cells yGh.toArray 189 (0,0))∧Boxed W (n+1) 183 (.slice (some ⟨n,0,none⟩) 12 12)∧Boxed W (n+2) 123 v∧W.ownsRow n 22 1 v out.length (out.map (Value.int .i8)) ∧
 W.heap[n+3]? = some (.cells #[.int .i8 a,.int .i8 b,.int .i8 so] 186 (0,0))∧Boxed W (n+4) 4 (.bool fst)∧Boxed W (n+5) 9 (.string s)
def WhrI (s:ByteArray) (w:World) (pre:List (yO s)) (W:World):Prop :=
 ∃a b so fst v out,Whr (pre.map (fun p=>yz p.1.2)) a so fst out∧WhB s w.heap.size W a b so fst v out∧Below w w W
theorem yPo {s:ByteArray} {n:Nat} {A B:World} {a b p:Int} {q:Bool} {v:Value} {r:List Int} (h:WhB s n A a b p q v r) {row:Option Nat} (d:A.grownBy B row) (D:∀k,row=some k→∃o,A.heap[k]? = some o∧o.isCells=false):WhB s n B a b p q v r:=by
 obtain⟨j,u,w,x,l,y,z⟩:=h;have i:∀{k:Nat} {c t f},A.heap[k]? = some (.cells c t f)→some k≠row:=fun m e=>by
  obtain⟨o,C,E⟩:=D _ e.symm;rw [m] at C;cases C;cases E
 have lt:∀{k:Nat} {o:Obj},A.heap[k]? = some o→k<A.heap.size:=fun m=>(zH.1 m).1;refine⟨(d.block _ (lt j) (i j)).trans j,u.kept d (i u),w.kept d (i w),x.kept d ?_,(d.block _ (lt l) (i l)).trans l,y.kept d (i y),z.kept d (i z)⟩;rcases x.2 with ⟨rfl,_⟩ | ⟨g,cap,H,rfl,_,F,_⟩
 ·exact .inl rfl
 ·refine .inr fun G=>?_;exact i F (by simpa [Value.ownBlock] using G)
def whW (s:ByteArray) (w:World) (n:Nat):World :=
 (((((w.alloc (.cells yGh.toArray 189)).alloc (.cells #[.slice (some ⟨n,0,none⟩) 12 12] 183)).alloc (.cells #[.slice none 0 0] 123)).alloc (.cells #[.int .i8 0,.int .i8 0,.int .i8 (-1)] 186)).alloc (.cells #[true] 4)).alloc (.cells #[s] 9)
theorem whB_start (s:ByteArray) (w:World) (n:Nat) (d:w.heap.size=n):WhB s n (whW s w n) 0 0 (-1) true (.slice none 0 0) []∧Below n w (whW s w n)∧(whW s w n).heap.size=n+6:=by
 subst d;have a:∀{W:World} {k:Nat} {o:Obj} (c:Obj),W.heap[k]? = some o→(W.alloc c).heap[k]? = some o:=fun {W k o} c h=>((World.grownBy_alloc W c none).block k (zH.1 h).1 (by simp)).trans h;have b:∀{W:World} {k:Nat} (o:Obj),k=W.heap.size→(W.alloc o).heap[k]? = some o:=fun {W k} o h=>by subst h;exact zL W o
 refine⟨⟨?_,?_,?_,Zx _ _ _ _,?_,?_,?_⟩,?_,?_⟩
 ·exact a _ (a _ (a _ (a _ (a _ (b _ rfl)))))
 ·exact a _ (a _ (a _ (a _ (b _ (by simp only [zM])))))
 ·exact a _ (a _ (a _ (b _ (by simp only [zM]))))
 ·exact a _ (a _ (b _ (by simp only [zM])))
 ·exact a _ (b _ (by simp only [zM]))
 ·exact b _ (by simp only [zM])
 ·unfold whW;refine ((((((Zc _ w).alloc (by omega) _).alloc ?_ _).alloc ?_ _).alloc ?_ _).alloc ?_ _).alloc ?_ _ <;> simp only [zM] <;> omega
 ·simp [whW,zM]
theorem yDv {s:ByteArray} {n:Nat} {A B:World} {a b d:Int} {f:Bool} {v:Value} {g:List Int} (h:WhB s n A a b d f v g) (c:Below A A B):WhB s n B a b d f v g :=
 yPo (row:=none) h ⟨c.os,c.tape,c.output,c.size,fun q i _=>c.block q i⟩ (fun k e=>by cases e)
theorem yR {A B:World} (a:Below A A B):KeepsOthers A B :=
 qQ (row:=none) ⟨a.os,a.tape,a.output,a.size,fun q b _=>a.block q b⟩ (fun _ _ e=>by cases e)
theorem yA {W:World} {k B i:Nat} {o:Obj} {v:Value} (h:W.heap[k]? = some o) (a:k≠B):(W.setCell ⟨B,i,none⟩ v).heap[k]? = some o:=by
 rw [Below.heap_setCell _ _ _ _ a];exact h
theorem yp {W:World} {base e a m B i:Nat} {v u:Value} {xs:List Value} (h:W.ownsRow base e a v m xs) (b:∀g,v.ownBlock=some g→g≠B):(W.setCell ⟨B,i,none⟩ u).ownsRow base e a v m xs:=by
 refine h.kept (row:=some B) ⟨rfl,rfl,rfl,(KeepsWalks.setCell W _ u).size,fun k _ c=>Below.heap_setCell _ _ _ k (fun e=>c (by rw [e]))⟩ ?_;cases hv:v.ownBlock with
 | none=>exact .inl rfl
 | some g=>exact .inr (fun e=>b g hv (by simpa using e))
theorem yM {W:World} {k i t:Nat} {cs:Array Value} (h:W.heap[k]? = some (.cells cs t (0,0))) (v:Value):(W.setCell ⟨k,i,none⟩ v).heap[k]? = some (.cells (cs.setIfInBounds i v) t (0,0)):=by
 obtain⟨a,b⟩:=zH.1 h;show (W.heap.modify k _)[k]? = _;rw [qs (by rw [Array.size_modify];exact a),Array.getElem_modify_self,b];rfl
theorem yA8 {W:World} {base e b m k t:Nat} {v:Value} {xs:List Value} {cs:Array Value} {f:Nat × Nat} (h:W.ownsRow base e b v m xs) (a:W.heap[k]? = some (.cells cs t f)) (c:t≠e):∀g,v.ownBlock=some g→g≠k:=by
 rcases h.2 with ⟨rfl,_⟩ | ⟨d,cap,n,rfl,_,i,_⟩
 ·intro g e;simp [Value.ownBlock] at e
 ·intro g j l;obtain rfl:d=g:=(by simpa [Value.ownBlock] using j);subst l;rw [i] at a;simp at a;exact c a.2.1.symm
theorem whB_b {s:ByteArray} {n:Nat} {W:World} {a b c:Int} {d:Bool} {v:Value} {e:List Int} (h:WhB s n W a b c d v e) (x:Int):WhB s n (W.setCell ⟨n+3,1,none⟩ (.int .i8 x)) a x c d v e:=by
 obtain⟨j,k,l,f,g,m,o⟩:=h;exact⟨yA j (by omega),yA k (by omega),yA l (by omega),yp f (yA8 f g (by decide)),yM (i:=1) g _,yA m (by omega),yA o (by omega)⟩
theorem whB_a {s:ByteArray} {n:Nat} {W:World} {a b c:Int} {d:Bool} {v:Value} {e:List Int} (h:WhB s n W a b c d v e) (x:Int):WhB s n (W.setCell ⟨n+3,0,none⟩ (.int .i8 x)) x b c d v e:=by
 obtain⟨j,k,l,f,g,m,o⟩:=h;exact⟨yA j (by omega),yA k (by omega),yA l (by omega),yp f (yA8 f g (by decide)),yM (i:=0) g _,yA m (by omega),yA o (by omega)⟩
theorem whB_so {s:ByteArray} {n:Nat} {W:World} {a b g:Int} {c:Bool} {v:Value} {d:List Int} (h:WhB s n W a b g c v d) (x:Int):WhB s n (W.setCell ⟨n+3,2,none⟩ (.int .i8 x)) a b x c v d:=by
 obtain⟨j,k,l,e,f,m,o⟩:=h;exact⟨yA j (by omega),yA k (by omega),yA l (by omega),yp e (yA8 e f (by decide)),yM (i:=2) f _,yA m (by omega),yA o (by omega)⟩
theorem yMd {s:ByteArray} {n:Nat} {W:World} {a b c:Int} {g:Bool} {v:Value} {d:List Int} (h:WhB s n W a b c g v d) (x:Bool):WhB s n (W.setCell ⟨n+4,0,none⟩ (.bool x)) a b c x v d:=by
 obtain⟨i,j,k,e,l,f,m⟩:=h;exact⟨yA i (by omega),yA j (by omega),yA k (by omega),yp e (yA8 e f (by decide)),yA l (by omega),f.set _,yA m (by omega)⟩
theorem yBa {s:ByteArray} {n:Nat} {W:World} {a b c:Int} {d:Bool} {v:Value} {e:List Int} (h:WhB s n W a b c d v e) :
 W.cell? ⟨n+3,0,none⟩=some (.int .i8 a)∧W.cell? ⟨n+3,1,none⟩=some (.int .i8 b)∧W.cell? ⟨n+3,2,none⟩=some (.int .i8 c)∧W.frozen? ⟨n+3,0,none⟩=false∧W.frozen? ⟨n+3,1,none⟩=false∧W.frozen? ⟨n+3,2,none⟩=false:=by
 have f:=h.2.2.2.2.1;refine⟨?_,?_,?_,?_,?_,?_⟩ <;> simp [World.cell?,World.frozen?,f]
theorem whB_rule {s:ByteArray} {n:Nat} {W:World} {a b d:Int} {e:Bool} {v:Value} {f:List Int} (h:WhB s n W a b d e v f) (i:Nat) (g:i<12) :
 W.cell? ⟨n,i*2,none⟩=some (.func (.func (yN5 i)) #[] #[])∧W.cell? ⟨n,i*2+1,none⟩=some (.int .i8 (yKa i)):=by
 have c:=h.1;obtain⟨j,k⟩:=rul_get i g;constructor
 ·simp [World.cell?,c];exact j
 ·simp [World.cell?,c];exact k
theorem whB_appended {s:ByteArray} {n:Nat} {W w1:World} {a b l:Int} {m:Bool} {v c:Value} {g:List Int} {d:Obj} {y:Int} (h:WhB s n W a b l m v g) (r:(W.alloc d).grownBy w1 v.ownBlock)
 (p:w1.ownsRow n 22 1 c (g.length+1) (g.map (Value.int .i8)++[.int .i8 y])):WhB s n (w1.setCell ⟨n+2,0,none⟩ c) a b l m c (g++[y]):=by
 have w:=yPo (row:=none) h (World.grownBy_alloc W d none) (fun k e=>by cases e);obtain⟨x,z,A,C,D,E,F⟩:=w;have lt:∀{k:Nat} {o:Obj},(W.alloc d).heap[k]? = some o→k<(W.alloc d).heap.size:=fun G=>(zH.1 G).1;have kp:∀{k t:Nat} {cs:Array Value} {f},(W.alloc d).heap[k]? = some (.cells cs t f)→t≠22→w1.heap[k]? = some (.cells cs t f):=fun {k t cs f} j H=>(r.block k (lt j) (fun e=>yA8 C j H k e.symm rfl)).trans j;have q:Boxed w1 (n+2) 123 v:=kp A (by decide);refine⟨yA (kp x (by decide)) (by omega),yA (kp z (by decide)) (by omega),q.set c,?_,yA (kp D (by decide)) (by omega),yA (kp E (by decide)) (by omega),yA (kp F (by decide)) (by omega)⟩;have:=yp (B:=n+2) (i:=0) (u:=c) p (yA8 p q (by decide))
 rwa [zJ,ZM,zW]
theorem own_frz {w:World} {base e b n cap G:Nat} {xs:List Value} (h:w.ownsRow base e b (.slice (some ⟨G,0,none⟩) n cap) n xs) (i:Nat):w.frozen? ⟨G,i,none⟩=false:=by
 rcases h.2 with ⟨a,h0⟩ | ⟨g,d,f,a,j,c,k,l,m,o⟩
 ·simp at a
 ·simp only [Value.slice.injEq,Option.some.injEq,Addr.mk.injEq,and_true,true_and] at a;obtain⟨rfl,rfl⟩:=a;simp [World.frozen?,c]
theorem whB_out {s:ByteArray} {n g cap:Nat} {W:World} {a b f y:Int} {i:Bool} {c:List Int} (h:WhB s n W a b f i (.slice (some ⟨g,0,none⟩) (c.length+1) cap) (c++[y])) (z:Int) :
 WhB s n (W.setCell ⟨g,c.length,none⟩ (.int .i8 z)) a b f i (.slice (some ⟨g,0,none⟩) (c.length+1) cap) (c++[z])∧W.cell? ⟨g,c.length,none⟩=some (.int .i8 y)∧W.frozen? ⟨g,c.length,none⟩=false∧n≤g:=by
 obtain⟨j,k,l,d,m,o,p⟩:=h;have q:(c++[y]).length=c.length+1:=by simp
 rw [q] at d;have r:=yA8 d j (by decide) g (by simp [Value.ownBlock]);have t:=yA8 d k (by decide) g (by simp [Value.ownBlock]);have u:=yA8 d l (by decide) g (by simp [Value.ownBlock]);have v:=yA8 d m (by decide) g (by simp [Value.ownBlock]);have w:=yA8 d o (by decide) g (by simp [Value.ownBlock]);have x:=yA8 d p (by decide) g (by simp [Value.ownBlock]);have A:=qH d c.length (.int .i8 z);have B:=World.ownsRow.cellAt d c.length (by omega);have C:=own_frz d c.length;have D:n≤g:=by
  rcases d.2 with ⟨e,_⟩ | ⟨F,G,H,e,E,_⟩
  ·cases e
  ·cases e;exact E
 refine⟨⟨yA j (Ne.symm r),yA k (Ne.symm t),yA l (Ne.symm u),?_,yA m (Ne.symm v),yA o (Ne.symm w),yA p (Ne.symm x)⟩,?_,C,D⟩
 ·have:=A.1;rw [zW,qm _ _ (by simp)] at this;simpa [q] using this
 ·rw [B,zW,zr (by simp)];simp
theorem Tryz.info_int8b:(Tryz.prog.info? 22).map (fun i=>(i.zero,i.size,i.bytes))=some (some (.int .i8 0),1,1):=by kernel_rfl
theorem rule_call (i:Nat) (a:i<12) (args:Array Value) (W:World):(callFunc (yN5 i) args).run Tryz.prog W=.ok (.enter (yN5 i) args) W:=by
 have:i=0∨i=1∨i=2∨i=3∨i=4∨i=5∨i=6∨i=7∨i=8∨i=9∨i=10∨i=11:=by omega
 rcases this with rfl | rfl | rfl | rfl | rfl | rfl | rfl | rfl | rfl | rfl | rfl | rfl <;> (unfold yN5;go_simp)
theorem yE7 {s:ByteArray} {w:World} {n:Nat} (f:w.heap.size=n) {pre:List (yO s)} {x:yO s} {W c:World} {a b d g:Int} {v:Value} {e:List Int} {k:Act} (l:W.cell? ⟨n+5,0,none⟩=some (.string s)) (m:yz x.1.2=g)
 (o:Whr (pre.map (fun p=>yz p.1.2)++[g]) a d false e) (h:WhB s n c a b d false v e) (q:Below n w W) (i:Below n W c) (r:KeepsOthers W c) :
 ownPostK (KpB (n+5) n) (WhrI s w) (fun _ _ _=>False) (pre++[x]) W .normal k c:=by
 refine⟨r,⟨i,fun u j=>?_⟩,a,b,d,false,v,e,?_,by rw [f];exact h,by rw [f];exact q.trans i⟩
 ·rw [l] at j;cases j;exact Boxed.cell h.2.2.2.2.2.2
 ·rw [zW,ZA,m];exact o
theorem yMl (s:ByteArray) (w:World) (hT:T8 w) (hs:s.size≤2097152) :
 Calls Tryz.prog 68 #[s] w fun e w'=>∃a c,e=.returned (.slice a (ye s).length c)∧yG .i8 22 w' w.heap.size a c (ye s)∧Below w w w':=by
 obtain⟨n,C⟩:=nm (w.heap.size);refine (qG (n:=4)).1 ?_;refine qI Tryz.func68 rfl trivial ?_ rfl;simp only [Tryz.ntmps68,qW,zb,zn,Nat.reduceAdd,Nat.reduceSub,qX,qY,qZ,qd,zp,zo];gi_wp2;refine wpIn_wide.2 (wp_scope_straight ((wpIn_wide (n:=4)).1 ?_));gi_wp2;refine⟨trivial,?_⟩;refine (qG.2 (brules_any _)).mono ?_;rintro e' W0 ⟨rfl,c0⟩;gi_wp2;refine wpIn_label ?_;gi_wp2;refine⟨trivial,?_⟩;refine (qG.2 (yIy s _)).mono ?_;rintro e' W0 ⟨rfl,c0⟩;replace c0:W0=whW s w n:=c0;obtain⟨b2,b3,i4⟩:=whB_start s w n C;rw [←c0] at b2 b3 i4;clear c0;have d4:=hT.below rfl (by rw [C];exact b3);rw [show (((((w.alloc (Obj.cells yGh.toArray 189)).alloc (Obj.cells #[Value.slice (some { block:=n,off:=0 }) 12 12] 183)).alloc (Obj.cells #[Value.slice none 0 0] 123)).alloc (Obj.cells #[Value.int IntKind.i8 0,Value.int IntKind.i8 0,Value.int IntKind.i8 (-1)] 186)).alloc (Obj.cells #[Value.bool true] 4)).heap.size=n+5 by simp only [zM,C]];unfold itV;gi_wp2;have h3:Tryz.lays197_ren.g 3<n:=by have:=yD (hT.1 0 (by omega));omega
 have h4:Tryz.lays197_ren.g 4<n:=by have:=yD (hT.2 0 (by omega)).1;omega
 have d5:W0.cell? ⟨n+5,0,none⟩=some (.string s):=Boxed.cell b2.2.2.2.2.2.2;refine wpIn_rangeFunc_ownF (F:=Fence.wide) rfl (by omega) (gf:=124) (lb:=#[.pointer (some ⟨n+5,0,none⟩)]) rfl trivial (qJ Tryz.func124 (by kernel_rfl) rfl)
  (yBf 3 (by omega) (n+5) n s (by omega) h3 h4 W0 (by omega) d5 d4) (fun h k=>KpB.trans h k) (yEy (w:=W0) (by omega)) (Zc _ _) (fun _=>rfl) (WhrI s w) (fun _ _ _=>False) ?hI (fun _ _ _ _ _ hs _ _=>hs) ?h0
  (fun x=>{ tmps:=#[.string s,undef,.slice none 0 0,.pointer (some ⟨n+1,0,none⟩),.pointer (some ⟨n+2,0,none⟩),.pointer (some ⟨n+3,0,none⟩),.pointer (some ⟨n+4,0,none⟩),undef,.string x.1.2,undef,undef,.slice (some ⟨n,0,none⟩) 12 12,.agg #[.int .i8 0,.int .i8 0,.int .i8 (-1)],.string s,.func (.func 124) #[] #[.pointer (some ⟨n+5,0,none⟩)],.int .i64 x.1.1,.string x.1.2,
    undef,undef,undef,undef,undef,undef,undef,undef,undef,undef,undef,undef,undef,undef,undef,undef,undef,undef,undef,undef,undef,undef,undef,undef,undef,undef,undef,undef,undef,undef,undef,undef,undef,undef,undef,undef,undef,undef,undef,undef,undef,undef,undef,undef,undef,undef],defers:=[] }) ?assign ?body ?done ?stop
 case hI =>
  rintro pre A B row ⟨a,b,L,c1,v,E,hw,G,M⟩ hg c5;exact⟨a,b,L,c1,v,E,hw,yPo G hg (fun k e=>(c5 k e).2),by rw [C] at M ⊢;exact M.grown hg (by have:=M.size;omega) (fun k e=>by have:=(c5 k e).1;omega)⟩
 case h0=>exact⟨0,0,-1,true,_,_,.inl ⟨rfl,rfl,rfl,rfl,rfl⟩,by rw [C];exact b2,by rw [C];exact b3⟩
 case assign =>
  intro l x W K hK;gi_wp2;exact hK
 case body =>
  rintro l pre x W ⟨a,b0,L,c1,v,E,hw,G,M⟩ b4;obtain⟨c,d6⟩:=nm (x.1.2);obtain⟨k3,h6⟩:∃a,x.1.1=a:=⟨_,rfl⟩;simp only [h6,d6];have d7:=yAj s;have a9:=whr_len hw;rw [zK] at a9;have i5:E.length+1≤2097152:=(by omega);rw [C] at G M;obtain⟨d,d8⟩:∃y,yz c=y:=⟨_,rfl⟩;have k4:=M.size;have i6:n+6≤W.heap.size:=Boxed.lt G.2.2.2.2.2.2;have f5:T8 W:=hT.below (by rfl) (by rw [C];exact M);have f7:=bkind_any c W f5;rw [d8] at f7;have i7:=lh f7;have b5:Hid (yz x.1.2=d):=lh (by rw [d6];exact d8);have b6:=lh (Boxed.cell G.2.2.2.2.2.2);have HL:=lh d8;have HX:=lh d6;have k5:=lh f5;have HW:=lh hw;have c7:=lh G;have HB:=lh M;have k6:=lh d7;have k7:=lh b4;have k8:=lh a9;clear f7 d8 d6 f5 hw G M hT d4 b3 b2 d5 d7 b4 a9 h6;gi_wp2;refine⟨trivial,?_⟩;refine (CallsIn.inRound l (qG.2 i7.out)).mono ?_;rintro e' W1 ⟨rfl,a8⟩;have f8:=yDv c7.out a8;obtain⟨o,q,r,t,u,z⟩:=yBa f8;gi_upto_region 8 with fail;have f:=whB_b f8 d;have I:Below n W (W1.setCell ⟨n+3,1,none⟩ (.int .i8 d)):=(a8.mono (by omega)).setCell (p:=⟨n+3,1,none⟩) (ZS _ _) _;have T:KeepsOthers W (W1.setCell ⟨n+3,1,none⟩ (.int .i8 d)):=(yR a8).trans (ZT _ _ _);generalize W1.setCell _ _=W2 at f I T ⊢;clear o q r t u z f8 a8;have f9:n+6≤W2.heap.size:=Boxed.lt f.2.2.2.2.2.2;cases c1 with
  | true =>
    have N:=lh (whr_first HW.out d);obtain⟨o,q,r,t,u,z⟩:=yBa f;have c6:=f.2.2.2.2.2.1.cell;have f6:=f.2.2.2.2.2.1.frozen;have V:=lh f;have X:=lh I;have Y:=lh T;clear f I T;gi_upto_region 17 with fail;have j:=yMd (whB_a V.out d) false;have O:Below n W ((W2.setCell ⟨n+3,0,none⟩ (.int .i8 d)).setCell ⟨n+4,0,none⟩ (.bool false)):=(X.out.setCell (p:=⟨n+3,0,none⟩) (ZS _ _) _).setCell (p:=⟨n+4,0,none⟩) (ZS _ _) _;have P:=(Y.out.trans (ZT _ ⟨n+3,0,none⟩ (.int .i8 d))).trans (ZT _ ⟨n+4,0,none⟩ (.bool false));generalize (W2.setCell _ _).setCell _ _=W3 at j O P ⊢;clear o q r t u z c6 f6 V X Y;have d9:n+6≤W3.heap.size:=Boxed.lt j.2.2.2.2.2.2;obtain⟨o,q,r,t,u,z⟩:=yBa j;have Z:=lh j;have a0:=lh O;have a1:=lh P;clear j O P;gi_wp2;refine⟨trivial,?_⟩;refine (CallsIn.inRound l (qG.2 (yCk d d L W3))).mono ?_;rintro e' W4 ⟨rfl,a2⟩;have H:=yDv Z.out a2;have Q:=a0.out.trans (a2.mono (by omega));have R:=a1.out.trans (yR a2);clear o q r t u z Z a0 a1;by_cases S:d=1
    ·rw [zQ S];rw [Zg S] at N;have a3:=lh H;have a4:=lh Q;have a5:=lh R;clear H Q R;gi_wp2;exact yE7 C b6.out b5.out N.out a3.out HB.out a4.out a5.out
    ·rw [zP S];rw [Zf S] at N;obtain⟨o,q,r,t,u,z⟩:=yBa H;have a3:=lh H;have a4:=lh Q;have a5:=lh R;clear H Q R;gi_wp2;exact yE7 C b6.out b5.out N.out (whB_so a3.out d) HB.out (a4.out.setCell (p:=⟨n+3,2,none⟩) (ZS _ _) _) (a5.out.trans (ZT _ _ _))
  | false =>
    obtain⟨i0,c8,c9,d0,d1⟩:=info_parts Tryz.info_int8b;have N:=lh (whr_next HW.out d);have c6:=f.2.2.2.2.2.1.cell;have f6:=f.2.2.2.2.2.1.frozen;have c4:=f.2.2.1.cell;have hr:=f.2.2.2.1;have hv:=f.2.2.1;have V:=lh f;have X:=lh I;have Y:=lh T;clear f I T;gi_upto_region 10 with (gi_at_builtin;refine Zz _ rfl _ _ 123 rfl n 22 i0 (.int .i8 0) 1 1 Tryz.underlying123 c8 c9 d0 d1 rfl (by decide) _ _ _ rfl (hr.alloc _) ⟨W2,0,none⟩ 1 1 [.int .i8 0] rfl rfl (by exact JV _ _ _) (by simp [Value.oneCell']) (by unfold maxLen;omega) (by omega) (by simp;omega) ?_;intro v' w1 a6 b1 _;obtain⟨J,U,rfl⟩:=ownsRow_succ a6;obtain⟨g0,i9,j0,h7,I⟩:=hv.appended (by decide) hr (by omega) (by omega) a6 b1;have j1:=g0.cell;have j2:=g0.frozen);have j:=whB_appended V.out b1 a6;have O:Below n W (w1.setCell ⟨n+2,0,none⟩ (.slice (some ⟨J,0,none⟩) (E.length+1) U)):=X.out.trans I;have P:=Y.out.trans h7;generalize w1.setCell _ _=W3 at j O P ⊢;clear g0 i9 j0 h7 I j1 j2 a6 b1 c6 f6 c4 hr hv V X Y f9 c8 c9 d0 d1;have d9:n+6≤W3.heap.size:=Boxed.lt j.2.2.2.2.2.2;have c3:=j.2.1.cell;have Z:=lh j;have a0:=lh O;have a1:=lh P;clear j O P;gi_wp2;gi_loopw [27] (fun u27 wr=>∃i:Nat,i≤12∧u27=.int .i64 i∧Below W3 W3 wr∧rulL a d L 0 (12-i) i=yNz a d L) (fun u27 _=>12-(intOf u27).toNat)
    case atStart=>exact⟨0,by omega,rfl,Zc _ _,rulL_all a d L⟩
    case round =>
     obtain⟨i,hi,rfl,b7,a7⟩:=hrel;have b8:=yDv Z.out b7;have e0:=a0.out.trans (b7.mono (by omega));have e3:=a1.out.trans (yR b7);have k9:n+6≤wr.heap.size:=Boxed.lt b8.2.2.2.2.2.2;by_cases b4:i<12
     ·obtain⟨k1,k2⟩:=whB_rule b8 i b4;have e4:=lh a7;have g1:=lh b8;have g2:=lh e0;have g3:=lh e3;have e5:=lh b7;clear a7 b8 e0 e3 b7;gi_upto_region 13 with fail;clear k1 k2;have e6:=qal wr (.cells #[.func (.func (yN5 i)) #[] #[],.int .i8 (yKa i)] 189);have e7:=yDv g1.out e6;have d2:(wr.alloc (.cells #[.func (.func (yN5 i)) #[] #[],.int .i8 (yKa i)] 189)).heap[wr.heap.size]? = some (.cells #[.func (.func (yN5 i)) #[] #[],.int .i8 (yKa i)] 189 (0,0)):=zL wr _;generalize wr.alloc _=W5 at e6 e7 d2 ⊢;obtain⟨o,q,r,t,u,z⟩:=yBa e7;have x0:=qc1 d2;have g4:wr.heap.size<W5.heap.size:=(zH.1 d2).1;have h8:=lh e7;have h9:=lh d2;have i1:=lh e6;clear e6 e7 d2;gi_wp2;rw [rule_call i b4,Oper.uponIn_enter];refine⟨trivial,fun _=>by omega,?_⟩;refine (CallsIn.inRound l (qG.2 (rule_any i b4 a d L W5))).mono ?_;rintro e' W6 ⟨rfl,d3⟩;have e8:=yDv h8.out d3;have g5:W6.heap[wr.heap.size]? = some (.cells #[.func (.func (yN5 i)) #[] #[],.int .i8 (yKa i)] 189 (0,0)):=Eq.trans (d3.block wr.heap.size g4) h9.out;have e9:=i1.out.trans (d3.mono (by omega));clear o q r t u z x0 h8 h9 i1;by_cases a7:rulB a d L i=true
      ·rw [a7];have hV:yKa i=yNz a d L:=by
        have:=e4.out;obtain⟨m,hm⟩:∃m,12-i=m+1:=⟨11-i,by omega⟩
        rwa [hm,rulL,Zg a7] at this
       obtain⟨hO,j3,j4,j5⟩:=whB_out e8 (yKa i);have c4:=e8.2.2.1.cell;obtain⟨-,x1⟩:=qc2 g5;have HO:=lh hO;have g6:=lh e9;have HV:=lh hV;clear e8 hO g5 e9 hV d3;gi_upto_region 16 with fail;have f:=HO.out;have I:Below n W (W6.setCell ⟨J,E.length,none⟩ (.int .i8 (yKa i))):=((g2.out.trans (g6.out.mono (by omega))).setCell (p:=⟨J,E.length,none⟩) j5 _);have T:KeepsOthers W (W6.setCell ⟨J,E.length,none⟩ (.int .i8 (yKa i))):=(g3.out.trans (yR g6.out)).trans (ZT _ _ _);rw [←HV.out] at N;clear j3 j4 c4 x1 HO g6 g2 g3 g1 e4 e5 HV;generalize W6.setCell _ _=W2 at f I T ⊢;obtain⟨o,q,r,t,u,z⟩:=yBa f;have c6:=f.2.2.2.2.2.1.cell;have f6:=f.2.2.2.2.2.1.frozen;have f9:n+6≤W2.heap.size:=Boxed.lt f.2.2.2.2.2.2;have V:=lh f;have X:=lh I;have Y:=lh T;clear f I T;gi_upto_region 17 with fail;have j:=yMd (whB_a V.out d) false;have O:Below n W ((W2.setCell ⟨n+3,0,none⟩ (.int .i8 d)).setCell ⟨n+4,0,none⟩ (.bool false)):=(X.out.setCell (p:=⟨n+3,0,none⟩) (ZS _ _) _).setCell (p:=⟨n+4,0,none⟩) (ZS _ _) _;have P:=(Y.out.trans (ZT _ ⟨n+3,0,none⟩ (.int .i8 d))).trans (ZT _ ⟨n+4,0,none⟩ (.bool false));generalize (W2.setCell _ _).setCell _ _=W3 at j O P ⊢;clear o q r t u z c6 f6 V X Y;have d9:n+6≤W3.heap.size:=Boxed.lt j.2.2.2.2.2.2;obtain⟨o,q,r,t,u,z⟩:=yBa j;have Z:=lh j;have a0:=lh O;have a1:=lh P;clear j O P;gi_wp2;refine⟨trivial,?_⟩;refine (CallsIn.inRound l (qG.2 (yCk d d L W3))).mono ?_;rintro e' W4 ⟨rfl,a2⟩;have H:=yDv Z.out a2;have Q:=a0.out.trans (a2.mono (by omega));have R:=a1.out.trans (yR a2);clear o q r t u z Z a0 a1;by_cases S:d=1
       ·rw [zQ S];rw [Zg S] at N;have a3:=lh H;have a4:=lh Q;have a5:=lh R;clear H Q R;gi_wp2;exact yE7 C b6.out b5.out N.out a3.out HB.out a4.out a5.out
       ·rw [zP S];rw [Zf S] at N;obtain⟨o,q,r,t,u,z⟩:=yBa H;have a3:=lh H;have a4:=lh Q;have a5:=lh R;clear H Q R;gi_wp2;exact yE7 C b6.out b5.out N.out (whB_so a3.out d) HB.out (a4.out.setCell (p:=⟨n+3,2,none⟩) (ZS _ _) _) (a5.out.trans (ZT _ _ _))
      ·rw [Bool.eq_false_iff.2 a7];have j6:=lh (e5.out.trans (e9.mono (e5.out.size)));have j7:Hid (rulL a d L 0 (12-(i+1)) (i+1)=yNz a d L):=lh (by
        have:=e4.out;obtain⟨m,hm⟩:∃m,12-i=m+1:=⟨11-i,by omega⟩;rw [hm,rulL,Zf a7] at this
        rwa [show 12-(i+1)=m by omega])
       clear e8 g5 e9 d3 g1 g2 g3 e5 e4;gi_wp2;go_roundw
       case rel=>exact⟨i+1,by omega,by go_num,j6.out,j7.out⟩
       case measure=>simp [intOf];omega
     ·obtain rfl:12=i:=(by omega);have hV:(0:Int)=yNz a d L:=a7;rw [←hV] at N;have f:=b8;have I:=e0;have T:=e3;clear b8 e0 e3 b7 a7 hV Z a0 a1;clear d9 c3;gi_upto_region 16 with fail;generalize wr=W2 at f I T ⊢;obtain⟨o,q,r,t,u,z⟩:=yBa f;have c6:=f.2.2.2.2.2.1.cell;have f6:=f.2.2.2.2.2.1.frozen;have f9:n+6≤W2.heap.size:=Boxed.lt f.2.2.2.2.2.2;have V:=lh f;have X:=lh I;have Y:=lh T;clear f I T;gi_upto_region 17 with fail;have j:=yMd (whB_a V.out d) false;have O:Below n W ((W2.setCell ⟨n+3,0,none⟩ (.int .i8 d)).setCell ⟨n+4,0,none⟩ (.bool false)):=(X.out.setCell (p:=⟨n+3,0,none⟩) (ZS _ _) _).setCell (p:=⟨n+4,0,none⟩) (ZS _ _) _;have P:=(Y.out.trans (ZT _ ⟨n+3,0,none⟩ (.int .i8 d))).trans (ZT _ ⟨n+4,0,none⟩ (.bool false));generalize (W2.setCell _ _).setCell _ _=W3 at j O P ⊢;clear o q r t u z c6 f6 V X Y;have d9:n+6≤W3.heap.size:=Boxed.lt j.2.2.2.2.2.2;obtain⟨o,q,r,t,u,z⟩:=yBa j;have Z:=lh j;have a0:=lh O;have a1:=lh P;clear j O P;gi_wp2;refine⟨trivial,?_⟩;refine (CallsIn.inRound l (qG.2 (yCk d d L W3))).mono ?_;rintro e' W4 ⟨rfl,a2⟩;have H:=yDv Z.out a2;have Q:=a0.out.trans (a2.mono (by omega));have R:=a1.out.trans (yR a2);clear o q r t u z Z a0 a1;by_cases S:d=1
      ·rw [zQ S];rw [Zg S] at N;have a3:=lh H;have a4:=lh Q;have a5:=lh R;clear H Q R;gi_wp2;exact yE7 C b6.out b5.out N.out a3.out HB.out a4.out a5.out
      ·rw [zP S];rw [Zf S] at N;obtain⟨o,q,r,t,u,z⟩:=yBa H;have a3:=lh H;have a4:=lh Q;have a5:=lh R;clear H Q R;gi_wp2;exact yE7 C b6.out b5.out N.out (whB_so a3.out d) HB.out (a4.out.setCell (p:=⟨n+3,2,none⟩) (ZS _ _) _) (a5.out.trans (ZT _ _ _))
 case done =>
  rintro D xs W hD f3 ⟨a,b0,L,c1,v,E,hw,G,M⟩ hK;have a9:=whr_len hw;have d7:=yAj s;have g4:xs.length=(yF s).length:=(by rw [←f3,zK]);rw [zK] at a9;have g7:xs.map (fun p=>yz p.1.2)=(yF s).map (fun p=>yz p.2):=(by rw [←f3,zx];rfl);rw [g7] at hw;have hI:=yP3 s;rw [C] at G M;have i6:n+6≤W.heap.size:=Boxed.lt G.2.2.2.2.2.2;have c6:=G.2.2.2.2.2.1.cell;cases c1 with
  | true =>
    have g8:=whr_nil hw;rw [←hI] at g8;have HI:=lh g8;have HB:=lh G;have c7:=lh M;have b9:=lh hK;clear hI g8 G M hw g7 f3 a9 hK hT d4 b3 b2 d5;gi_wp2;rw [Exit.noGoto_ret];refine⟨by simp,.inl ⟨_,_,rfl,Zv b9.out,?_⟩⟩;exact⟨_,results_tmp rfl _ _ _,none,0,by rw [HI.out];rfl,by rw [HI.out];exact Zx _ _ _ _,by rw [C];exact c7.out.trans (JY (w:=W0) (by omega) W D _ _ hD b9.out rfl rfl)⟩
  | false =>
    have g9:=whr_done hw;rw [←hI] at g9;obtain⟨i0,c8,c9,d0,d1⟩:=info_parts Tryz.info_int8b;have hr:=G.2.2.2.1;have hv:=G.2.2.1;have c4:=hv.cell;have i2:some D≠v.ownBlock:=fun e=>by
     rcases hr.2 with ⟨rfl,_⟩ | ⟨g,cap,j8,rfl,_,j9,_⟩
     ·simp [Value.ownBlock] at e
     ·obtain rfl:g=D:=(by simpa [Value.ownBlock] using e.symm);rw [j9] at hK;cases hK
    have k0:=lh i2;clear i2;have c5:∀k,v.ownBlock=some k→n≤k:=fun k e=>by
     rcases hr.2 with ⟨rfl,_⟩ | ⟨g,cap,j8,rfl,hg,_⟩
     ·simp [Value.ownBlock] at e
     ·obtain rfl:g=k:=(by simpa [Value.ownBlock] using e);exact hg
    obtain⟨o,q,r,t,u,z⟩:=yBa G;have i5:E.length+1≤2097152:=(by omega);have HR:=lh c5;have c7:=lh M;have b9:=lh hK;have i3:=lh g9;clear hI g9 G M hw g7 f3 a9 d7 g4 hK hT d4 b3 b2 d5 c5;have fin:∀(y:Int) (w1:World) (J U:Nat) (f4:Obj),ye s=E++[y]→w1.ownsRow n 22 1 (.slice (some ⟨J,0,none⟩) (E.length+1) U) (E.length+1) (E.map (Value.int .i8)++[.int .i8 y])→(W.alloc f4).grownBy w1 v.ownBlock →
     w1.heap[D]? = some (.deferred (some []))∧(.slice (some ⟨J,0,none⟩) (E.length+1) U:Value)=.slice (some ⟨J,0,none⟩) (ye s).length U∧yG .i8 22 (w1.putObj D (.deferred none)) w.heap.size (some ⟨J,0,none⟩) U (ye s)∧Below w w (w1.putObj D (.deferred none)):=by
     intro y w1 J U f4 he ho hg;have hd:w1.heap[D]? = some (.deferred (some [])):=(hg.block D (by have:=(zH.1 b9.out).1;simp;omega) k0.out).trans (((World.grownBy_alloc W f4 none).block D (zH.1 b9.out).1 (by simp)).trans b9.out);have hl:(ye s).length=E.length+1:=(by rw [he,zJ,ZM]);refine⟨hd,by rw [hl],?_,?_⟩
     ·unfold yG;rw [hl,he,zW,C];exact ownsRow_putObj ho _ hd rfl
     ·rw [C];exact ((c7.out.alloc (by omega) f4).grown hg (by simp;omega) HR.out).trans (JY (w:=W0) (by omega) w1 D _ _ hD hd rfl rfl)
    have HF:=lh fin;clear fin;by_cases e2:a=2
    ·subst e2;gi_wp2_with (gi_at_builtin;refine Zz _ rfl _ _ 123 rfl n 22 i0 (.int .i8 0) 1 1 Tryz.underlying123 c8 c9 d0 d1 rfl (by decide) _ _ _ rfl (hr.alloc _) ⟨W,0,none⟩ 1 1 [.int .i8 2] rfl rfl (by exact JV _ _ _) (by simp [Value.oneCell']) (by unfold maxLen;omega) (by omega) (by simp;omega) ?_;intro v' w1 a6 b1 _;obtain⟨J,U,rfl⟩:=ownsRow_succ a6);obtain⟨h1,h2,h5,a8⟩:=HF.out 2 w1 J U _ (by rw [i3.out];rfl) a6 b1;refine⟨by simp,.inl ⟨_,_,rfl,Zv h1,?_⟩⟩;exact⟨_,results_tmp rfl _ _ _,_,_,by rw [←h2];rfl,h5,a8⟩
    ·have c2:(a==2)=false:=(by simpa using e2);gi_wp2_with (gi_at_builtin;refine Zz _ rfl _ _ 123 rfl n 22 i0 (.int .i8 0) 1 1 Tryz.underlying123 c8 c9 d0 d1 rfl (by decide) _ _ _ rfl (hr.alloc _) ⟨W,0,none⟩ 1 1 [.int .i8 0] rfl rfl (by exact JV _ _ _) (by simp [Value.oneCell']) (by unfold maxLen;omega) (by omega) (by simp;omega) ?_;intro v' w1 a6 b1 _;obtain⟨J,U,rfl⟩:=ownsRow_succ a6);obtain⟨h1,h2,h5,a8⟩:=HF.out 0 w1 J U _ (by rw [i3.out,Zf e2]) a6 b1;refine⟨by simp,.inl ⟨_,_,rfl,Zv h1,?_⟩⟩;exact⟨_,results_tmp rfl _ _ _,_,_,by rw [←h2];rfl,h5,a8⟩
 case stop =>
  rintro D c pre W hD _ h _;exact h.elim
def DB (w:World):Prop:=w.cell? ⟨5,15,none⟩=some (.int .u8 4)
theorem DB.below {w w':World} (h:DB w) (a:Below w w w'):DB w':=yB a (yD h) h
theorem tz64_any (w:World) (h:DB w):Calls Tryz.prog 269 #[.int .u64 16] w fun e w'=>e=.returned (.int .i64 4)∧w'=w:=by
 have a:(IntKind.u64.wrap (bits BinOp.and IntKind.u64 16 (IntKind.u64.wrap (-16))*285870213051353865) / 288230376151711744)=15:=by decide
 have b:(IntKind.u64.wrap (bits BinOp.and IntKind.u64 16 (IntKind.u64.wrap (-16))*285870213051353865) / 288230376151711744).toNat=15:=by rw [a];rfl
 have c:w.cell? ⟨5,(IntKind.u64.wrap (bits BinOp.and IntKind.u64 16 (IntKind.u64.wrap (-16))*285870213051353865) / 288230376151711744).toNat,none⟩=some (.int .u8 4):=by rw [b];exact h
 clear a b h;go_enter Tryz.func269,Tryz.ntmps269;go_wp2;go_ret;exact⟨rfl,rfl⟩
theorem tz16_any (w:World) (h:DB w):Calls Tryz.prog 262 #[.int .u64 16] w fun e w'=>e=.returned (.int .i64 4)∧w'=w:=by
 have a:=lh (tz64_any w h);clear h;go_enter Tryz.func262,Tryz.ntmps262;go_wp2_with (go_at_call 269;refine a.out.mono ?_;rintro e w1 ⟨rfl,rfl⟩);go_ret;exact⟨rfl,rfl⟩
theorem pow16_any (w:World):Calls Tryz.prog 261 #[.int .i64 16] w fun e w'=>e=.returned (.bool true)∧w'=w:=by
 go_enter Tryz.func261,Tryz.ntmps261;go_wp2;go_ret;exact⟨rfl,rfl⟩
def yMx (d:Nat):Int:=if d<10 then 48+d else 87+d
def hexF:Nat→Nat→List Int→List Int
 | 0,u,acc=>yMx (u % 16)::acc
 | f+1,u,acc=>if 16≤u then hexF f (u / 16) (yMx (u % 16)::acc) else yMx (u % 16)::acc
def yN4 (u:Nat):List Int:=hexF 16 u []
def ByB (W:World) (B t:Nat) (xs:List Int):Prop:=W.heap[B]? = some (.cells (xs.map (Value.int .u8)).toArray t (0,0))
theorem ByB.cell {W:World} {B t:Nat} {xs:List Int} (h:ByB W B t xs) (i:Nat) (a:i<xs.length):W.cell? ⟨B,i,none⟩=some (.int .u8 (yH xs i)):=by
 unfold ByB at h;simp [World.cell?,h,yH,zF a]
theorem ByB.frozen {W:World} {B t:Nat} {xs:List Int} (h:ByB W B t xs) (i:Nat):W.frozen? ⟨B,i,none⟩=false:=by
 unfold ByB at h;simp [World.frozen?,h]
theorem ByB.set {W:World} {B t:Nat} {xs:List Int} (h:ByB W B t xs) (i:Nat) (v:Int):ByB (W.setCell ⟨B,i,none⟩ (.int .u8 v)) B t (xs.set i v):=by
 have:=yM (i:=i) h (.int .u8 v);unfold ByB;rw [this,List.map_set];simp
theorem and15 (v:Nat) (a:v<18446744073709551616):bits BinOp.and IntKind.u64 (v:Int) 15=((v % 16:Nat):Int):=by
 rw [show (15:Int)=((15:Nat):Int) from rfl,bits_and_u64_nat v 15 a (by omega),show 15=2 ^ 4-1 from rfl,Nat.and_two_pow_sub_one_eq_mod]
theorem conv_rdx {w:World} {n cap:Nat} {a:Option Addr} {xs:List Int} (h:Rd .u8 w a xs) (c:xs.length=n) :
 (convert 118 9 (.slice a n cap)).run Tryz.prog w=.ok (.string (strOfNums xs)) w:=by
 subst c;rcases h with rfl | ⟨b,d,rfl,_,e⟩
 ·cases a with
  | none=>exact Lib.run_convert_nil_bytes w _ _ _ _ Tryz.underlying118 Tryz.underlying5 Tryz.underlying9
  | some x =>
    rw [run_convert_bytes_string w _ _ _ _ _ cap Tryz.underlying118 Tryz.underlying5 Tryz.underlying9];rw [show ([]:List Int).length=0 from rfl,run_bytesToString w _ 0 cap [] (run_loadCells_list (P:=Tryz.prog) w x [] (fun j v f=>by simp at f)),foldl_push_bytes];simp [strOfNums,ByteArray.empty,ByteArray.emptyWithCapacity];rfl
 ·exact run_convert_bytes_arg w _ _ Tryz.underlying118 Tryz.underlying5 b d xs.length cap xs rfl e _ Tryz.underlying9
theorem set_drop (xs a:List Int) (k:Nat) (d:Int) (b:k<xs.length) (h:xs.drop (k+1)=a):(xs.set k d).drop k=d::a:=by
 rw [qT (by rw [ZQ];exact b),List.getElem_set_self,List.drop_set_of_lt (by omega),h]
theorem ByB.rd {W:World} {B t:Nat} {xs:List Int} (h:ByB W B t xs) (k:Nat):Rd .u8 W (some ⟨B,k,none⟩) (xs.drop k):=by
 by_cases b:k<xs.length
 ·refine .inr ⟨B,k,rfl,(zH.1 h).1,fun i a=>?_⟩;rw [zy] at a;rw [h.cell (k+i) (by omega)];simp [yH]
 ·exact .inl (ql (by omega))
theorem slice65 (W:World) (B k:Nat) (d:k<65):(Instr.sliceAt 342 (.pointer (some ⟨B,0,none⟩)) (some (.int .i64 (k:Int))) none none).run Tryz.prog W=.ok (.slice (some ⟨B,k,none⟩) (65-k) (65-k)) W:=by
 have a:Tryz.prog.arrayLen 342=65:=by kernel_rfl
 have b:Tryz.prog.elem 342=5:=by kernel_rfl
 have c:Tryz.prog.underlying 342=some (.array (Tryz.prog.arrayLen 342) (Tryz.prog.elem 342)):=by kernel_rfl
 rw [run_sliceAt_array_l W _ ⟨B,0,none⟩ c .i64 k (by omega) (by rw [a];omega),b,Tryz.sizeOf5];simp only [Result.andThen,a,slicedAt];by_cases h0:k=0
 ·subst h0;rfl
 ·rw [Zf (by omega)];simp [Addr.add];exact h0
def digB:ByteArray:=⟨#[48,49,50,51,52,53,54,55,56,57,97,98,99,100,101,102,103,104,105,106,107,108,109,110,111,112,113,114,115,116,117,118,119,120,121,122]⟩
theorem dig_at (d:Nat) (a:d<16) (h:d<digB.size):((digB[d]'h).toNat:Int)=yMx d:=by
 have:d=0∨d=1∨d=2∨d=3∨d=4∨d=5∨d=6∨d=7∨d=8∨d=9∨d=10∨d=11∨d=12∨d=13∨d=14∨d=15:=by omega
 rcases this with rfl | rfl | rfl | rfl | rfl | rfl | rfl | rfl | rfl | rfl | rfl | rfl | rfl | rfl | rfl | rfl <;> rfl
theorem fbits_any (u:Nat) (B:u<4294967296) (w:World) (t:DB w):Calls Tryz.prog 239 #[.slice none 0 0,.int .u64 u,.int .i64 16,false,false] w fun e w'=>e=.returned (.tuple #[.slice none 0 0,.string (strOfNums (yN4 u))])∧Below w w w':=by
 have C:=lh (fun W=>pow16_any W);have D:=lh (fun (W:World) (a:Below w w W)=>tz16_any W (t.below a));clear t;go_enter Tryz.func239,Tryz.ntmps239;go_wp2_with (first
  | (go_at_call 261;refine (C.out _).mono ?_;rintro e w1 ⟨rfl,rfl⟩)
  | (go_at_call 262;refine (D.out _ ((Zc _ _).alloc (zT _) _)).mono ?_;rintro e w1 ⟨rfl,rfl⟩))
 have h0:ByB (w.alloc (.cells Tryz.zeroCells342 342)) w.heap.size 342 (List.replicate 65 0):=by
  unfold ByB;rw [zL];rfl
 go_loopw [1,13] (fun u1 u13 wr=>∃(f v i:Nat) (xs l:List Int),u1=.int .u64 v∧u13=.int .i64 i∧hexF f v l=yN4 u∧v<16 ^ (f+1)∧f+l.length=16∧i+l.length=65∧xs.length=65∧xs.drop i=l∧v<4294967296∧ByB wr w.heap.size 342 xs∧Below w w wr) (fun u1 _ _=>(intOf u1).toNat)
 case atStart=>exact⟨16,u,65,_,[],rfl,rfl,rfl,by omega,rfl,rfl,rfl,rfl,B,h0,(Zc _ _).alloc (zT _) _⟩
 case round =>
  obtain⟨f,v,i,xs,l,rfl,rfl,c,d,m,n,j,h,I,b,a⟩:=hrel;obtain⟨k,rfl⟩:∃k,i=k+1:=⟨i-1,by omega⟩;have J:wrap64 (((k+1:Nat):Int)-1)=(k:Int):=(by unfold wrap64;omega);have K:=b.cell k (by omega);have L:=b.frozen k;have M:k<65:=(by omega);by_cases x:16≤v
  ·have E:(v:Int) ≥ 16:=(by omega);have N:=and15 v (by omega);have o:=lh (And.intro c (And.intro d (And.intro m (And.intro n (And.intro j (And.intro h (And.intro b a)))))));clear c d m n j h b a;go_wp2;obtain⟨c,d,m,n,j,h,b,a⟩:=o.out;obtain⟨f,rfl⟩:∃g,f=g+1:=⟨f-1,by
    cases f with
    | zero=>simp at d;omega
    | succ f=>rfl⟩
   rw [hexF,Zg x] at c;go_roundw
   case rel =>
    refine⟨f,v / 16,k,xs.set k (yMx (v % 16)),yMx (v % 16)::l,by rw [Int.natCast_ediv];rfl,rfl,c,?_,by rw [zb];omega,by rw [zb];omega,?_,?_,by omega,by have:=b.set k (yMx (v % 16));rw [←dig_at (v % 16) (by omega) (by show v % 16<36;omega)] at this;rw [←dig_at (v % 16) (by omega) (by show v % 16<36;omega)];exact this,a.setCell (p:=⟨w.heap.size,k,none⟩) (zT _) _⟩
    ·rw [Nat.pow_succ] at d;omega
    ·rw [ZQ];exact j
    ·exact set_drop _ _ _ _ (by omega) h
   case measure=>simp [intOf];omega
  ·have E:¬ (v:Int) ≥ 16:=(by omega);have O:(v:Int)<36:=(by omega);have o:=lh (And.intro c (And.intro d (And.intro m (And.intro n (And.intro j (And.intro h (And.intro b a)))))));clear c d m n j h b a;go_upto_region 30 with fail;obtain⟨c,d,m,n,j,h,b,a⟩:=o.out;have q:=b.set k (yMx v);rw [←dig_at v (by omega) (by show v<36;omega)] at q;have y:=a.setCell (p:=⟨w.heap.size,k,none⟩) (zT _) (.int .u8 ((digB[v]'(by show v<36;omega)).toNat:Int));have r:yN4 u=yMx v::l:=by
    rw [←c];cases f with
    | zero=>rw [hexF,Nat.mod_eq_of_lt (by omega)]
    | succ f=>rw [hexF,Zf x,Nat.mod_eq_of_lt (by omega)]
   have s:=q.rd k;have z:(xs.set k ((digB[v]'(by show v<36;omega)).toNat:Int)).drop k=yN4 u:=(by rw [dig_at v (by omega) (by show v<36;omega),set_drop _ _ _ _ (by omega) h,←r]);rw [z] at s;have A:(yN4 u).length=65-k:=(by rw [r,zb];omega);have F:=conv_rdx (cap:=65-k) s A;have G:=slice65 (wr.setCell ⟨w.heap.size,k,none⟩ (.int .u8 ((digB[v]'(by show v<36;omega)).toNat:Int))) w.heap.size k (by omega);unfold digB at F G;have H:=lh y;clear c d m n j h b a o q y r s A z;go_wp2
   go_ret2
   exact⟨rfl,H.out⟩
theorem fint0_any (u:Nat) (b:u<4294967296) (w:World) (a:DB w):Calls Tryz.prog 227 #[u,.int .i64 16] w fun e w'=>e=.returned (.string (strOfNums (yN4 u)))∧Below w w w':=by
 have c:=lh (fun (W:World) (d:Below w w W)=>fbits_any u b W (a.below d));clear a;go_enter Tryz.func227,Tryz.ntmps227;go_wp2_with (go_at_call 239;refine (c.out _ (by first | exact Zc _ _ | exact (Zc _ _).alloc (zT _) _)).mono ?_;rintro e w1 ⟨rfl,f⟩);go_ret;exact⟨rfl,f⟩
theorem fint_any (u:Nat) (b:u<4294967296) (w:World) (a:DB w):Calls Tryz.prog 208 #[u,.int .i64 16] w fun e w'=>e=.returned (.string (strOfNums (yN4 u)))∧Below w w w':=by
 have c:=lh (fint0_any u b w a);clear a;go_enter Tryz.func208,Tryz.ntmps208;go_wp2_with (go_at_call 227;refine c.out.mono ?_;rintro e w1 ⟨rfl,d⟩);go_ret;exact⟨rfl,d⟩
def yLs (col tab:Int):Int:=if tab<1∨16<tab then 8-(max col 0) % 8 else tab-(max col 0) % tab
abbrev yEq (tab want:Int) (wide join raw:Bool):Value:=.agg #[tab,wide,.int .i8 want,join,raw]
theorem stop_any (a c d:Int) (f g h:Bool) (w:World):Calls Tryz.prog 171 #[a,yEq c d f g h] w fun e w'=>e=.returned (.int .i64 (yLs a c))∧Below w w w':=by
 go_enter Tryz.func171,Tryz.ntmps171;go_wp2
 all_goals go_ret
 all_goals refine⟨yK ?_,(Zc _ _).alloc (zT _) _⟩
 all_goals unfold yLs
 all_goals first
  | rw [Zg (by omega)]
  | (rw [Zf (by omega)]
     have i:=Int.emod_nonneg (max a 0) (b:=c) (by omega);have j:=Int.emod_lt_of_pos (max a 0) (b:=c) (by omega);generalize max a 0 % c=m at i j;unfold wrap64;omega)
def yPt:Nat→ByteArray→ByteArray
 | 0,s=>s
 | f+1,s=>if s.size<4 then yPt f (⟨#[48]⟩++s) else s
def yD8 (x:Nat):ByteArray:=⟨#[60]⟩++yPt 4 (strOfNums (yN4 x))++⟨#[62]⟩
theorem yFn (l:List Int):(strOfNums l).size=l.length:=by
 unfold strOfNums;simp [ByteArray.size]
theorem yO4:∀(f u:Nat) (a:List Int),(hexF f u a).length≤f+1+a.length
 | 0,u,a=>by rw [hexF,zb];omega
 | f+1,u,a=>by
   rw [hexF];split
   ·have:=yO4 f (u / 16) (yMx (u % 16)::a);rw [zb] at this;omega
   ·rw [zb];omega
theorem yM0 (x:Nat) (q:x<2147483648) (w:World) (b:DB w):Calls Tryz.prog 173 #[.int .i32 x] w fun e w'=>e=.returned (.string (yD8 x))∧Below w w w':=by
 have c:=lh (fint_any x (by omega) w b);have d:=yO4 16 x [];obtain⟨S,a⟩:=nm (strOfNums (yN4 x));have l:S.size≤17:=by rw [←a,yFn];exact d
 have h:yD8 x=⟨#[60]⟩++yPt 4 S++⟨#[62]⟩:=by unfold yD8;rw [a]
 rw [a] at c;have m:=lh h;clear d a b h;go_enter Tryz.func173,Tryz.ntmps173;go_wp2_with (go_at_call 208;refine c.out.mono ?_;rintro e w1 ⟨rfl,n⟩);go_loopw [3] (fun u3 wr=>∃(f:Nat) (t:ByteArray),u3=.string t∧yPt f t=yPt 4 S∧4≤t.size+f∧t.size≤17∧wr=w1) (fun u3 _=>4-(match u3 with | .string t=>t.size | _=>0))
 case atStart=>exact⟨4,S,rfl,rfl,by omega,l,rfl⟩
 case round =>
  obtain⟨f,t,rfl,i,r,s,rfl⟩:=hrel;have j:=lh i;clear i;by_cases k:t.size<4
  ·have o:(t.size:Int)<4:=(by omega);have u:((⟨#[48]⟩:ByteArray)++t).size=1+t.size:=(by rw [qj];rfl);go_wp2;go_roundw
   case rel=>exact⟨f-1,⟨#[48]⟩++t,rfl,by
    have:=j.out;obtain⟨g,rfl⟩:∃g,f=g+1:=⟨f-1,by omega⟩;rw [yPt,Zg k] at this;exact this,by omega,by omega,by first | rfl | trivial⟩
   case measure =>
    show 4-(⟨#[48]⟩++t:ByteArray).size<4-t.size;omega
  ·have o:¬ (t.size:Int)<4:=(by omega);go_wp2;go_ret;have p:yPt 4 S=t:=by
    rw [←j.out];cases f with
    | zero=>rfl
    | succ f=>rw [yPt,Zf k]
   exact⟨by rw [m.out,p];rfl,n⟩
end
end Go.Proofs.YtncplikdjcmoeaaGreatDoor
