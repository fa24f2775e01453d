/- The tied card of CaretWalks: at any input the law answers true, what came in stays as it is. Condition: the listed tables stand as the text lays them (the card ties them). -/
import Derived.Test.YtncplikdjcmoeaaGreatDoorCards
import Derived.Test.YtncplikdjcmoeaaGreatDoorTie
import Derived.Test.YtncplikdjcmoeaaGreatDoorQ05
import Derived.Test.YtncplikdjcmoeaaGreatDoorQ24
namespace Go.Proofs.YtncplikdjcmoeaaGreatDoor.caretWalks
set_option linter.unusedVariables false
set_option linter.unusedSimpArgs false
set_option maxRecDepth 100000
set_option maxHeartbeats 4000000
open Go.ChangeShapes Go.WideShapes Go.ChangeAt Go.RowKit
open Go.ChangeMaps (open_string shut_string)
open Go.Proofs.YtncplikdjcmoeaaGreatDoor.laids
theorem own:ownKnob Tryz.prog.godebug=none:=by kernel_rfl
theorem laidOut:laidOutB Tryz.prog=true:=by kernel_rfl
theorem listOf3 {α:Type} {l:List α} (h:l.length=3):∃a b c,l=[a,b,c]:=by
 match l,h with
 | [a,b,c],_=>exact⟨a,b,c,rfl⟩
theorem listOf4 {α:Type} {l:List α} (h:l.length=4):∃a b c d,l=[a,b,c,d]:=by
 match l,h with
 | [a,b,c,d],_=>exact⟨a,b,c,d,rfl⟩
theorem listOf5 {α:Type} {l:List α} (h:l.length=5):∃a b c d e,l=[a,b,c,d,e]:=by
 match l,h with
 | [a,b,c,d,e],_=>exact⟨a,b,c,d,e,rfl⟩
theorem listOf10 {α:Type} {l:List α} (h:l.length=10):∃a b c d e f g h i j,l=[a,b,c,d,e,f,g,h,i,j]:=by
 match l,h with
 | [a,b,c,d,e,f,g,h,i,j],_=>exact⟨a,b,c,d,e,f,g,h,i,j,rfl⟩
theorem cells_open {P:Program} {H:Type} {enc:TypeId × Value→H} {w:World} {base:Nat} {c:Nat→Bool} {e:Bool} {r:Reach} {k:Nat} {t:TypeId} {b:Array Field} {v:Value} {d:DataW H} {p:List MemPlace} {N:Nat}
 (g:P.underlying t=some (.struct b)) (l:P.cellsOf t=N) (m:Value.okWide P w r k t v) (h:DataW.Trod enc P w base c e t v d p) :
 ∃(cs:List Value) (a:List (DataW H × List MemPlace)) (n:Nat),v=.agg cs.toArray∧cs.length=N∧a.length=b.size ∧
   ∀(i:Nat) (f:Field) (y:DataW H × List MemPlace),b[i]? = some f→a[i]? = some y→DataW.trod enc P w base c e n f.type ((cs.drop f.offset).take (P.cellsOf f.type))=some y:=by
 obtain⟨o,rfl,j⟩:=okWide_struct g m;obtain⟨cs⟩:=o;obtain⟨fuel,q⟩:=h;obtain⟨a,n,_,A,_,s,u⟩:=DataW.trod_struct g q;exact⟨cs,a,n,rfl,by rw [l] at j;simpa using j,s,fun i f y x z=>(u i f x).trans z⟩
theorem part {P:Program} {H:Type} {enc:TypeId × Value→H} {w:World} {base:Nat} {a:Nat→Bool} {b:Bool} {n:Nat} {t:TypeId} {cs l:List Value} {y:DataW H × List MemPlace} (o k:Nat) (c:P.cellsOf t=k)
 (h:DataW.trod enc P w base a b n t ((cs.drop o).take (P.cellsOf t))=some y) (e:(cs.drop o).take k=l):DataW.trod enc P w base a b n t l=some y:=by
 rw [←e,←c];exact h
theorem contract (H:Type) (enc:TypeId × Value→H) (W:World) (base:Nat) (args:Array Value) (y Y:List (DataW H)) (Z:List MemPlace)
 (z:∀(j:Nat) t v,Tryz.f7.params[j]? = some t→args[j]? = some v→Value.okWide Tryz.prog W .any base t v)
 (A:DataW.Whole enc Tryz.prog Tryz.f7.params.toList Rows.caretWalksSpec.vars false W args.toList y Y Z) (hL:laidMetH Tryz.prog Rows.caretWalksRow.laid W) :
 Calls Tryz.prog 7 args W fun e B=>∃v,e=.returned v∧Rows.caretWalksSpec.post enc Tryz.prog Tryz.f7 false true false false W args v B:=by
 have f:∀(j:Nat) t v,Tryz.f7.params[j]? = some t→args[j]? = some v→Value.okWide Tryz.prog W .any base t v:=z;have a0:=A;obtain⟨p,q,C,hV,rfl,e2,e3⟩:=A;have D:DataW.TrodAll enc Tryz.prog W 0 (fun _=>true) true Tryz.f7.params.toList args.toList y p:=C;rw [Tryz.params7] at D f;obtain⟨E,e4,d0,e5,p0,q0,e6,rfl,rfl,h0,r0⟩:=trodAll_cons D;obtain⟨F,e7,d1,e8,p1,q1,rfl,rfl,rfl,G,r1⟩:=trodAll_cons r0;obtain⟨rfl,rfl,rfl⟩:=trodAll_nil r1;obtain rfl:args=#[E,F]:=by cases args;simp_all
 obtain⟨rfl,rfl⟩:=trodVars_none hV;have I:=G;have a1:∀x∈p1,x.block<W.heap.size:=by obtain⟨m,hm⟩:=I;exact DataW.trod_lt m _ _ _ hm
 obtain⟨s0,rfl,rfl,rfl,w0⟩:=open_string Tryz.underlying9 (f 0 9 E rfl rfl) h0;obtain⟨e9,f0,c,rfl,a2,a3,d⟩:=cells_open (P:=Tryz.prog) (N:=10) Tryz.underlying70 (by kernel_rfl) (f 1 70 F rfl rfl) G;obtain⟨J,g,i,k,l,n,o,r,s,K,rfl⟩:=listOf10 a2;obtain⟨a4,a5,a6,a7,rfl⟩:=listOf4 a3;have a8:DataW.trod enc Tryz.prog W 0 (fun _=>true) true c 3 [J]=some a4:=part 0 1 (by kernel_rfl) (d 0 _ _ rfl rfl) rfl;obtain⟨L,a9,_,f1⟩:=DataW.trod_int Tryz.underlying3 a8;obtain rfl:J=.int .i64 L:=by simpa using a9
 have b0:DataW.trod enc Tryz.prog W 0 (fun _=>true) true c 26 [g,i,k,l,n]=some a5:=part 1 5 (by kernel_rfl) (d 1 _ _ rfl rfl) rfl;obtain⟨f2,a,_,_,_,b1,b⟩:=DataW.trod_struct Tryz.underlying26 b0;obtain⟨b2,b3,b4,b5,b6,rfl⟩:=listOf5 b1;have b7:DataW.trod enc Tryz.prog W 0 (fun _=>true) true a 3 [g]=some b2:=part 0 1 (by kernel_rfl) (b 0 _ rfl) rfl;obtain⟨M,b8,_,f3⟩:=DataW.trod_int Tryz.underlying3 b7;obtain rfl:g=.int .i64 M:=by simpa using b8
 have b9:DataW.trod enc Tryz.prog W 0 (fun _=>true) true a 4 [i]=some b3:=part 1 1 (by kernel_rfl) (b 1 _ rfl) rfl;obtain⟨O,c0,_⟩:=DataW.trod_bool Tryz.underlying4 b9;obtain rfl:i=.bool O:=by simpa using c0
 have c1:DataW.trod enc Tryz.prog W 0 (fun _=>true) true a 22 [k]=some b4:=part 2 1 (by kernel_rfl) (b 2 _ rfl) rfl;obtain⟨Q,c2,_,f4⟩:=DataW.trod_int Tryz.underlying22 c1;obtain rfl:k=.int .i8 Q:=by simpa using c2
 have c3:DataW.trod enc Tryz.prog W 0 (fun _=>true) true a 4 [l]=some b5:=part 3 1 (by kernel_rfl) (b 3 _ rfl) rfl;obtain⟨R,c4,_⟩:=DataW.trod_bool Tryz.underlying4 c3;obtain rfl:l=.bool R:=by simpa using c4
 have c5:DataW.trod enc Tryz.prog W 0 (fun _=>true) true a 4 [n]=some b6:=part 4 1 (by kernel_rfl) (b 4 _ rfl) rfl;obtain⟨S,c6,_⟩:=DataW.trod_bool Tryz.underlying4 c5;obtain rfl:n=.bool S:=by simpa using c6
 have c7:DataW.trod enc Tryz.prog W 0 (fun _=>true) true c 33 [o,r,s]=some a6:=part 6 3 (by kernel_rfl) (d 2 _ _ rfl rfl) rfl;obtain⟨f5,u,_,_,_,c8,w⟩:=DataW.trod_struct Tryz.underlying33 c7;obtain⟨c9,d2,d3,rfl⟩:=listOf3 c8;have d4:DataW.trod enc Tryz.prog W 0 (fun _=>true) true u 3 [o]=some c9:=part 0 1 (by kernel_rfl) (w 0 _ rfl) rfl;obtain⟨T,d5,_,f6⟩:=DataW.trod_int Tryz.underlying3 d4;obtain rfl:o=.int .i64 T:=by simpa using d5
 have d6:DataW.trod enc Tryz.prog W 0 (fun _=>true) true u 4 [r]=some d2:=part 1 1 (by kernel_rfl) (w 1 _ rfl) rfl;obtain⟨U,d7,_⟩:=DataW.trod_bool Tryz.underlying4 d6;obtain rfl:r=.bool U:=by simpa using d7
 have d8:DataW.trod enc Tryz.prog W 0 (fun _=>true) true u 3 [s]=some d3:=part 2 1 (by kernel_rfl) (w 2 _ rfl) rfl;obtain⟨V,d9,_,f8⟩:=DataW.trod_int Tryz.underlying3 d8;obtain rfl:s=.int .i64 V:=by simpa using d9
 have e0:DataW.trod enc Tryz.prog W 0 (fun _=>true) true c 3 [K]=some a7:=part 9 1 (by kernel_rfl) (d 3 _ _ rfl rfl) rfl;obtain⟨X,e1,_,f9⟩:=DataW.trod_int Tryz.underlying3 e0;obtain rfl:K=.int .i64 X:=by simpa using e1
 clear C z;obtain⟨hT,hD⟩:=yOf hL;refine (LawCW_any s0 L M Q T V X O R S U W hT hD).mono fun e B ⟨he,bel⟩=>?_;subst he;exact⟨_,rfl,_,_,_,[],_,[],a0,trodAll_mk1 (shut_bool Tryz.underlying4 _),(trodAll_cons_mk (shut_string Tryz.underlying9 w0) (trodAll_cons_mk (Below.trod laidOut (by kernel_rfl) (JZ (by kernel_rfl)) I bel a1) trodAll_mk0)),rfl,bel.frame _,fun h=>by cases h⟩
def wArgs:Array Value:=#[.string ⟨#[]⟩,.agg #[.int .i64 0,.int .i64 0,.bool false,.int .i8 0,.bool false,.bool false,.int .i64 0,.bool false,.int .i64 0,.int .i64 0]]
theorem reads (a:Os) {H:Type} (enc:TypeId × Value→H):∃x,DataW.whole enc Tryz.prog ((yCl a).forCall (fun _ _=>0) ⟨#[],wArgs,[]⟩).memory Tryz.f7.params.toList Rows.caretWalksSpec.vars false wArgs.toList 8 =
 some ([.lit (.string []),.agg [.lit (.int .i64 0),.agg [.lit (.int .i64 0),.lit (.bool false),.lit (.int .i8 0),.lit (.bool false),.lit (.bool false)],.agg [.lit (.int .i64 0),.lit (.bool false),.lit (.int .i64 0)],.lit (.int .i64 0)]],[],x):=⟨[],by kernel_rfl⟩
theorem lifted (a:Os) (b:a.Started) (H:Type) (enc:TypeId × Value→H) (F:Stop.Interp) :
 ReturnsInHanded {} Tryz.checked a 7 .any ((OpenSpec.ofChange Rows.caretWalksSpec).preRow enc Tryz.prog Tryz.f7 Rows.caretWalksRow.domain false Rows.caretWalksRow.laid) (((OpenSpec.ofChange Rows.caretWalksSpec).at F).post enc Tryz.prog Tryz.f7 false true false false):=by
 obtain⟨l,c⟩:=reads a enc;refine returnsInHanded_of_row (C:=Tryz.checked) (s:=OpenSpec.ofChange Rows.caretWalksSpec) own b (by kernel_rfl) Tryz.func7
  (witness_row_at (enc:=enc) (C:=Tryz.checked) false (yCl a) wArgs rfl (by kernel_rfl) (by kernel_rfl) (by kernel_rfl)
    (OpenSpec.preRow_of_cond 8 c (by kernel_rfl) (fun k d=>by cases d) (by kernel_rfl) (yLi a _))) ?_
 intro W base args e f g h i _ _ _ j _ _;exact contract H enc W base args e f g h i j
theorem and_tt {a b:Bool} (c:a=true) (d:b=true):(a&&b)=true:=by rw [c,d];rfl
theorem closed:joinedFacts Tryz.pinned.checked.prog 7 Tryz.f7 (OpenSpec.ofChange Rows.caretWalksSpec).bare Rows.caretWalksRow=true:=by
 unfold joinedFacts
 repeat' (with_reducible refine and_tt ?_ ?_)
 all_goals (as_aux_lemma=>kernel_rfl)
theorem said:Rows.CaretWalksSaid :=
 OpenClaim.holds_of_cond 7 Tryz.f7 rfl rfl rfl rfl rfl rfl rfl ⟨rfl,rfl,rfl,rfl,rfl⟩ rfl rfl rfl rfl rfl (by kernel_rfl) Tryz.func7 closed
  (JZ (by kernel_rfl)) (by unfold Func.isWrapper;first | (rw [Zg (by decide +kernel)];kernel_rfl) | (rw [Zf (by decide +kernel)];exact⟨rfl,rfl⟩))
  (fun a b H enc _ F=>by rw [OpenClaim.pre_eq_preRow];exact lifted a b H enc F)
theorem plain (f:FuncId) (a:Func) (c:Tryz.pinned.checked.prog.funcNamed "shuttle/shuttlelaw16.CaretWalks" = some f) (d:Tryz.pinned.checked.prog.funcs[f]? = some a) :
 false=Tryz.pinned.checked.prog.looks []∧∀(j:Nat) t,a.params[j]? = some t→Tryz.pinned.checked.prog.wantsStandIn t=false:=by
 obtain rfl:f=7:=zu ((show Tryz.prog.funcNamed "shuttle/shuttlelaw16.CaretWalks" = some 7 by kernel_rfl).symm.trans c) |>.symm;obtain rfl:a=Tryz.f7:=(zu (Tryz.func7.symm.trans d)).symm;refine⟨by kernel_rfl,fun j t b=>?_⟩;rw [Tryz.params7] at b;have e:t∈[9,70]:=by simpa using Array.mem_of_getElem? b
 have g:([9,70].all fun u=>!Tryz.prog.wantsStandIn u)=true:=by kernel_rfl
 exact (show Tryz.prog.wantsStandIn t=false by simpa using Zs.1 g t e)
theorem proved:Rows.CaretWalksCardSaid :=
 Claim7.holds_tied_plain_at .later [] _ _ _ _ said (fun _ h=>by cases h) (by kernel_rfl) (fun _ h=>by cases h) caretWalks_row_tie rfl ⟨rfl,rfl⟩ (by kernel_rfl) rfl plain (by kernel_rfl)
#print axioms proved
end Go.Proofs.YtncplikdjcmoeaaGreatDoor.caretWalks
