/- The tied card of CaretDown: at any input the law answers true, what came in stays as it is. Condition: the listed tables stand as the text lays them (the card ties them). -/
import Derived.Test.YtncplikdjcmoeaaGreatDoorCards
import Derived.Test.YtncplikdjcmoeaaGreatDoorTie
import Derived.Test.YtncplikdjcmoeaaGreatDoorQ05
import Derived.Test.YtncplikdjcmoeaaGreatDoorQ26
namespace Go.Proofs.YtncplikdjcmoeaaGreatDoor.caretDown
set_option linter.unusedVariables false
set_option linter.unusedSimpArgs false
set_option maxRecDepth 100000
set_option maxHeartbeats 4000000
open Go.ChangeShapes Go.WideShapes Go.ChangeAt Go.RowKit
open Go.ChangeMaps (open_string shut_string)
open Go.Proofs.YtncplikdjcmoeaaGreatDoor.laids
theorem own:ownKnob Tryz.prog.godebug=none:=by kernel_rfl
theorem laidOut:laidOutB Tryz.prog=true:=by kernel_rfl
theorem listOf3 {α:Type} {l:List α} (h:l.length=3):∃a b c,l=[a,b,c]:=by
 match l,h with
 | [a,b,c],_=>exact⟨a,b,c,rfl⟩
theorem listOf4 {α:Type} {l:List α} (h:l.length=4):∃a b c d,l=[a,b,c,d]:=by
 match l,h with
 | [a,b,c,d],_=>exact⟨a,b,c,d,rfl⟩
theorem listOf5 {α:Type} {l:List α} (h:l.length=5):∃a b c d e,l=[a,b,c,d,e]:=by
 match l,h with
 | [a,b,c,d,e],_=>exact⟨a,b,c,d,e,rfl⟩
theorem listOf10 {α:Type} {l:List α} (h:l.length=10):∃a b c d e f g h i j,l=[a,b,c,d,e,f,g,h,i,j]:=by
 match l,h with
 | [a,b,c,d,e,f,g,h,i,j],_=>exact⟨a,b,c,d,e,f,g,h,i,j,rfl⟩
theorem cells_open {P:Program} {H:Type} {enc:TypeId × Value→H} {w:World} {base:Nat} {c:Nat→Bool} {e:Bool} {r:Reach} {k:Nat} {t:TypeId} {b:Array Field} {v:Value} {d:DataW H} {p:List MemPlace} {N:Nat}
 (g:P.underlying t=some (.struct b)) (l:P.cellsOf t=N) (m:Value.okWide P w r k t v) (h:DataW.Trod enc P w base c e t v d p) :
 ∃(cs:List Value) (a:List (DataW H × List MemPlace)) (n:Nat),v=.agg cs.toArray∧cs.length=N∧a.length=b.size ∧
   ∀(i:Nat) (f:Field) (y:DataW H × List MemPlace),b[i]? = some f→a[i]? = some y→DataW.trod enc P w base c e n f.type ((cs.drop f.offset).take (P.cellsOf f.type))=some y:=by
 obtain⟨o,rfl,j⟩:=okWide_struct g m;obtain⟨cs⟩:=o;obtain⟨fuel,q⟩:=h;obtain⟨a,n,_,A,_,s,u⟩:=DataW.trod_struct g q;exact⟨cs,a,n,rfl,by rw [l] at j;simpa using j,s,fun i f y x z=>(u i f x).trans z⟩
theorem part {P:Program} {H:Type} {enc:TypeId × Value→H} {w:World} {base:Nat} {a:Nat→Bool} {b:Bool} {n:Nat} {t:TypeId} {cs l:List Value} {y:DataW H × List MemPlace} (o k:Nat) (c:P.cellsOf t=k)
 (h:DataW.trod enc P w base a b n t ((cs.drop o).take (P.cellsOf t))=some y) (e:(cs.drop o).take k=l):DataW.trod enc P w base a b n t l=some y:=by
 rw [←e,←c];exact h
theorem contract (H:Type) (enc:TypeId × Value→H) (W:World) (base:Nat) (args:Array Value) (y Z:List (DataW H)) (a0:List MemPlace)
 (z:∀(j:Nat) t v,Tryz.f8.params[j]? = some t→args[j]? = some v→Value.okWide Tryz.prog W .any base t v)
 (A:DataW.Whole enc Tryz.prog Tryz.f8.params.toList Rows.caretDownSpec.vars false W args.toList y Z a0) (hL:laidMetH Tryz.prog Rows.caretDownRow.laid W) :
 Calls Tryz.prog 8 args W fun e B=>∃v,e=.returned v∧Rows.caretDownSpec.post enc Tryz.prog Tryz.f8 false true false false W args v B:=by
 have c:∀(j:Nat) t v,Tryz.f8.params[j]? = some t→args[j]? = some v→Value.okWide Tryz.prog W .any base t v:=z;have a1:=A;obtain⟨p,q,C,hV,rfl,e5,e6⟩:=A;have D:DataW.TrodAll enc Tryz.prog W 0 (fun _=>true) true Tryz.f8.params.toList args.toList y p:=C;rw [Tryz.params8] at D c;obtain⟨E,e7,d0,e8,p0,q0,e9,rfl,rfl,h0,r0⟩:=trodAll_cons D;obtain⟨F,f0,d1,f1,p1,q1,rfl,rfl,rfl,G,r1⟩:=trodAll_cons r0;obtain⟨I,f2,d2,f3,p2,q2,rfl,rfl,rfl,h2,r2⟩:=trodAll_cons r1;obtain⟨rfl,rfl,rfl⟩:=trodAll_nil r2;obtain rfl:args=#[E,F,I]:=by cases args;simp_all
 obtain⟨rfl,rfl⟩:=trodVars_none hV;have J:=G;have a3:∀x∈p1,x.block<W.heap.size:=by obtain⟨m,hm⟩:=J;exact DataW.trod_lt m _ _ _ hm
 obtain⟨s0,rfl,rfl,rfl,w0⟩:=open_string Tryz.underlying9 (c 0 9 E rfl rfl) h0;obtain⟨f4,f5,d,rfl,a4,a5,f⟩:=cells_open (P:=Tryz.prog) (N:=10) Tryz.underlying70 (by kernel_rfl) (c 1 70 F rfl rfl) G;obtain⟨K,g,i,k,l,n,o,r,s,L,rfl⟩:=listOf10 a4;obtain⟨a6,a7,a8,a9,rfl⟩:=listOf4 a5;have b0:DataW.trod enc Tryz.prog W 0 (fun _=>true) true d 3 [K]=some a6:=part 0 1 (by kernel_rfl) (f 0 _ _ rfl rfl) rfl;obtain⟨M,b1,_,f6⟩:=DataW.trod_int Tryz.underlying3 b0;obtain rfl:K=.int .i64 M:=by simpa using b1
 have b2:DataW.trod enc Tryz.prog W 0 (fun _=>true) true d 26 [g,i,k,l,n]=some a7:=part 1 5 (by kernel_rfl) (f 1 _ _ rfl rfl) rfl;obtain⟨f7,a,_,_,_,b3,b⟩:=DataW.trod_struct Tryz.underlying26 b2;obtain⟨b4,b5,b6,b7,b8,rfl⟩:=listOf5 b3;have b9:DataW.trod enc Tryz.prog W 0 (fun _=>true) true a 3 [g]=some b4:=part 0 1 (by kernel_rfl) (b 0 _ rfl) rfl;obtain⟨O,c0,_,f9⟩:=DataW.trod_int Tryz.underlying3 b9;obtain rfl:g=.int .i64 O:=by simpa using c0
 have c1:DataW.trod enc Tryz.prog W 0 (fun _=>true) true a 4 [i]=some b5:=part 1 1 (by kernel_rfl) (b 1 _ rfl) rfl;obtain⟨Q,c2,_⟩:=DataW.trod_bool Tryz.underlying4 c1;obtain rfl:i=.bool Q:=by simpa using c2
 have c3:DataW.trod enc Tryz.prog W 0 (fun _=>true) true a 22 [k]=some b6:=part 2 1 (by kernel_rfl) (b 2 _ rfl) rfl;obtain⟨R,c4,_,g0⟩:=DataW.trod_int Tryz.underlying22 c3;obtain rfl:k=.int .i8 R:=by simpa using c4
 have c5:DataW.trod enc Tryz.prog W 0 (fun _=>true) true a 4 [l]=some b7:=part 3 1 (by kernel_rfl) (b 3 _ rfl) rfl;obtain⟨S,c6,_⟩:=DataW.trod_bool Tryz.underlying4 c5;obtain rfl:l=.bool S:=by simpa using c6
 have c7:DataW.trod enc Tryz.prog W 0 (fun _=>true) true a 4 [n]=some b8:=part 4 1 (by kernel_rfl) (b 4 _ rfl) rfl;obtain⟨T,c8,_⟩:=DataW.trod_bool Tryz.underlying4 c7;obtain rfl:n=.bool T:=by simpa using c8
 have c9:DataW.trod enc Tryz.prog W 0 (fun _=>true) true d 33 [o,r,s]=some a8:=part 6 3 (by kernel_rfl) (f 2 _ _ rfl rfl) rfl;obtain⟨g1,u,_,_,_,d3,w⟩:=DataW.trod_struct Tryz.underlying33 c9;obtain⟨d4,d5,d6,rfl⟩:=listOf3 d3;have d7:DataW.trod enc Tryz.prog W 0 (fun _=>true) true u 3 [o]=some d4:=part 0 1 (by kernel_rfl) (w 0 _ rfl) rfl;obtain⟨U,d8,_,g2⟩:=DataW.trod_int Tryz.underlying3 d7;obtain rfl:o=.int .i64 U:=by simpa using d8
 have d9:DataW.trod enc Tryz.prog W 0 (fun _=>true) true u 4 [r]=some d5:=part 1 1 (by kernel_rfl) (w 1 _ rfl) rfl;obtain⟨V,e0,_⟩:=DataW.trod_bool Tryz.underlying4 d9;obtain rfl:r=.bool V:=by simpa using e0
 have e1:DataW.trod enc Tryz.prog W 0 (fun _=>true) true u 3 [s]=some d6:=part 2 1 (by kernel_rfl) (w 2 _ rfl) rfl;obtain⟨X,e2,_,g3⟩:=DataW.trod_int Tryz.underlying3 e1;obtain rfl:s=.int .i64 X:=by simpa using e2
 have e3:DataW.trod enc Tryz.prog W 0 (fun _=>true) true d 3 [L]=some a9:=part 9 1 (by kernel_rfl) (f 3 _ _ rfl rfl) rfl;obtain⟨Y,e4,_,g4⟩:=DataW.trod_int Tryz.underlying3 e3;obtain rfl:L=.int .i64 Y:=by simpa using e4
 obtain⟨a2,rfl,rfl,rfl,w2⟩:=open_int Tryz.underlying3 (c 2 3 I rfl rfl) h2;clear C z;obtain⟨hT,hD⟩:=yOf hL;refine (LawCD_any s0 M O R U X Y a2 Q S T V W hT hD).mono fun e B ⟨he,bel⟩=>?_;subst he;exact⟨_,rfl,_,_,_,[],_,[],a1,trodAll_mk1 (shut_bool Tryz.underlying4 _),(trodAll_cons_mk (shut_string Tryz.underlying9 w0) (trodAll_cons_mk (Below.trod laidOut (by kernel_rfl) (JZ (by kernel_rfl)) J bel a3) (trodAll_cons_mk (shut_int Tryz.underlying3 w2) trodAll_mk0))),rfl,bel.frame _,fun h=>by cases h⟩
def wArgs:Array Value:=#[.string ⟨#[]⟩,.agg #[.int .i64 0,.int .i64 0,.bool false,.int .i8 0,.bool false,.bool false,.int .i64 0,.bool false,.int .i64 0,.int .i64 0],.int .i64 0]
theorem reads (a:Os) {H:Type} (enc:TypeId × Value→H):∃x,DataW.whole enc Tryz.prog ((yCl a).forCall (fun _ _=>0) ⟨#[],wArgs,[]⟩).memory Tryz.f8.params.toList Rows.caretDownSpec.vars false wArgs.toList 8 =
 some ([.lit (.string []),.agg [.lit (.int .i64 0),.agg [.lit (.int .i64 0),.lit (.bool false),.lit (.int .i8 0),.lit (.bool false),.lit (.bool false)],.agg [.lit (.int .i64 0),.lit (.bool false),.lit (.int .i64 0)],.lit (.int .i64 0)],.lit (.int .i64 0)],[],x):=⟨[],by kernel_rfl⟩
theorem lifted (a:Os) (b:a.Started) (H:Type) (enc:TypeId × Value→H) (F:Stop.Interp) :
 ReturnsInHanded {} Tryz.checked a 8 .any ((OpenSpec.ofChange Rows.caretDownSpec).preRow enc Tryz.prog Tryz.f8 Rows.caretDownRow.domain false Rows.caretDownRow.laid) (((OpenSpec.ofChange Rows.caretDownSpec).at F).post enc Tryz.prog Tryz.f8 false true false false):=by
 obtain⟨l,c⟩:=reads a enc;refine returnsInHanded_of_row (C:=Tryz.checked) (s:=OpenSpec.ofChange Rows.caretDownSpec) own b (by kernel_rfl) Tryz.func8
  (witness_row_at (enc:=enc) (C:=Tryz.checked) false (yCl a) wArgs rfl (by kernel_rfl) (by kernel_rfl) (by kernel_rfl)
    (OpenSpec.preRow_of_cond 8 c (by kernel_rfl) (fun k d=>by cases d) (by kernel_rfl) (yLi a _))) ?_
 intro W base args e f g h i _ _ _ j _ _;exact contract H enc W base args e f g h i j
theorem and_tt {a b:Bool} (c:a=true) (d:b=true):(a&&b)=true:=by rw [c,d];rfl
theorem closed:joinedFacts Tryz.pinned.checked.prog 8 Tryz.f8 (OpenSpec.ofChange Rows.caretDownSpec).bare Rows.caretDownRow=true:=by
 unfold joinedFacts
 repeat' (with_reducible refine and_tt ?_ ?_)
 all_goals (as_aux_lemma=>kernel_rfl)
theorem said:Rows.CaretDownSaid :=
 OpenClaim.holds_of_cond 8 Tryz.f8 rfl rfl rfl rfl rfl rfl rfl ⟨rfl,rfl,rfl,rfl,rfl⟩ rfl rfl rfl rfl rfl (by kernel_rfl) Tryz.func8 closed
  (JZ (by kernel_rfl)) (by unfold Func.isWrapper;first | (rw [Zg (by decide +kernel)];kernel_rfl) | (rw [Zf (by decide +kernel)];exact⟨rfl,rfl⟩))
  (fun a b H enc _ F=>by rw [OpenClaim.pre_eq_preRow];exact lifted a b H enc F)
theorem plain (f:FuncId) (a:Func) (c:Tryz.pinned.checked.prog.funcNamed "shuttle/shuttlelaw16.CaretDown" = some f) (d:Tryz.pinned.checked.prog.funcs[f]? = some a) :
 false=Tryz.pinned.checked.prog.looks []∧∀(j:Nat) t,a.params[j]? = some t→Tryz.pinned.checked.prog.wantsStandIn t=false:=by
 obtain rfl:f=8:=zu ((show Tryz.prog.funcNamed "shuttle/shuttlelaw16.CaretDown" = some 8 by kernel_rfl).symm.trans c) |>.symm;obtain rfl:a=Tryz.f8:=(zu (Tryz.func8.symm.trans d)).symm;refine⟨by kernel_rfl,fun j t b=>?_⟩;rw [Tryz.params8] at b;have e:t∈[9,70,3]:=by simpa using Array.mem_of_getElem? b
 have g:([9,70,3].all fun u=>!Tryz.prog.wantsStandIn u)=true:=by kernel_rfl
 exact (show Tryz.prog.wantsStandIn t=false by simpa using Zs.1 g t e)
theorem proved:Rows.CaretDownCardSaid :=
 Claim7.holds_tied_plain_at .later [] _ _ _ _ said (fun _ h=>by cases h) (by kernel_rfl) (fun _ h=>by cases h) caretDown_row_tie rfl ⟨rfl,rfl⟩ (by kernel_rfl) rfl plain (by kernel_rfl)
#print axioms proved
end Go.Proofs.YtncplikdjcmoeaaGreatDoor.caretDown
