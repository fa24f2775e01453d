/- The tied card of CaretThere: at any input the law answers true, what came in stays as it is. Condition: the listed tables stand as the text lays them (the card ties them). -/
import Derived.Test.YtncplikdjcmoeaaGreatDoorCards
import Derived.Test.YtncplikdjcmoeaaGreatDoorTie
import Derived.Test.YtncplikdjcmoeaaGreatDoorQ05
import Derived.Test.YtncplikdjcmoeaaGreatDoorQ19
import Derived.Test.YtncplikdjcmoeaaGreatDoorQ20
namespace Go.Proofs.YtncplikdjcmoeaaGreatDoor.caretThere
set_option linter.unusedVariables false
set_option linter.unusedSimpArgs false
set_option maxRecDepth 100000
set_option maxHeartbeats 4000000
open Go.ChangeShapes Go.WideShapes Go.ChangeAt Go.RowKit
open Go.ChangeMaps (open_string shut_string)
open Go.Proofs.YtncplikdjcmoeaaGreatDoor.bulks Go.Proofs.YtncplikdjcmoeaaGreatDoor.laids
theorem own:ownKnob Tryz.prog.godebug=none:=by kernel_rfl
theorem laidOut:laidOutB Tryz.prog=true:=by kernel_rfl
theorem listOf3 {α:Type} {l:List α} (h:l.length=3):∃a b c,l=[a,b,c]:=by
 match l,h with
 | [a,b,c],_=>exact⟨a,b,c,rfl⟩
theorem contract (H:Type) (enc:TypeId × Value→H) (W:World) (base:Nat) (args:Array Value) (b f:List (DataW H)) (A:List MemPlace)
 (g:∀(j:Nat) t v,Tryz.f10.params[j]? = some t→args[j]? = some v→Value.okWide Tryz.prog W .any base t v)
 (i:DataW.Whole enc Tryz.prog Tryz.f10.params.toList Rows.caretThereSpec.vars false W args.toList b f A) (B:Rows.uptoSmall H (b++f)=true) (C:laidMetH Tryz.prog Rows.caretThereUptoRow.laid W) :
 Calls Tryz.prog 10 args W fun e k=>∃v,e=.returned v∧Rows.caretThereSpec.post enc Tryz.prog Tryz.f10 false true false false W args v k:=by
 have c:∀(j:Nat) t v,Tryz.f10.params[j]? = some t→args[j]? = some v→Value.okWide Tryz.prog W .any base t v:=g;have D:=i;obtain⟨p,q,l,E,rfl,a0,a1⟩:=i;have n:DataW.TrodAll enc Tryz.prog W 0 (fun _=>true) true Tryz.f10.params.toList args.toList b p:=l;rw [Tryz.params10] at n c;obtain⟨o,a2,d0,a3,p0,q0,a4,rfl,rfl,h0,F⟩:=trodAll_cons n;obtain⟨r,a5,d1,a6,G,q1,rfl,rfl,rfl,s,I⟩:=trodAll_cons F;obtain⟨rfl,rfl,rfl⟩:=trodAll_nil I;obtain rfl:args=#[o,r]:=by cases args;simp_all
 obtain⟨rfl,rfl⟩:=trodVars_none E;have u:=s;have J:∀x∈G,x.block<W.heap.size:=by obtain⟨m,K⟩:=u;exact DataW.trod_lt m _ _ _ K
 obtain⟨a,rfl,rfl,rfl,L⟩:=open_string Tryz.underlying9 (c 0 9 o rfl rfl) h0;obtain⟨a7,a8,n1,rfl,a9,M,N,d⟩:=fields_open (P:=Tryz.prog) Tryz.underlying33 (by kernel_rfl) (by kernel_rfl) (c 1 33 r rfl rfl) s;obtain⟨O,Q,R,rfl⟩:=listOf3 M;obtain⟨b0,b1,b2,rfl⟩:=listOf3 N;have S:=d 0 _ _ _ rfl rfl rfl;obtain⟨w,T,_,b3⟩:=DataW.trod_int Tryz.underlying3 S;obtain rfl:O=.int .i64 w:=by simpa using T
 have U:=d 1 _ _ _ rfl rfl rfl;obtain⟨y,V,_⟩:=DataW.trod_bool Tryz.underlying4 U;obtain rfl:Q=.bool y:=by simpa using V
 have X:=d 2 _ _ _ rfl rfl rfl;obtain⟨z,Y,_,b4⟩:=DataW.trod_int Tryz.underlying3 X;obtain rfl:R=.int .i64 z:=by simpa using Y
 have b5:a.size≤1048576:=by
  have Z:=bound B;simp [Rows.uptoBulkAll,Rows.uptoBulk] at Z;have e:a.data.size=a.size:=rfl;omega
 clear l g;obtain⟨hT,hD⟩:=yOf C;refine (LawCT_any a (by omega) w z y W hT hD).mono fun e k ⟨he,bel⟩=>?_;subst he;exact⟨_,rfl,_,_,_,[],_,[],D,trodAll_mk1 (shut_bool Tryz.underlying4 _),(trodAll_cons_mk (shut_string Tryz.underlying9 L) (trodAll_cons_mk (Below.trod laidOut (by kernel_rfl) (JZ (by kernel_rfl)) u bel J) trodAll_mk0)),rfl,bel.frame _,fun h=>by cases h⟩
def wArgs:Array Value:=#[.string ⟨#[]⟩,.agg #[.int .i64 0,.bool false,.int .i64 0]]
theorem reads (a:Os) {H:Type} (enc:TypeId × Value→H):∃x,DataW.whole enc Tryz.prog ((yCl a).forCall (fun _ _=>0) ⟨#[],wArgs,[]⟩).memory Tryz.f10.params.toList Rows.caretThereSpec.vars false wArgs.toList 8 =
 some ([.lit (.string []),.agg [.lit (.int .i64 0),.lit (.bool false),.lit (.int .i64 0)]],[],x):=⟨[],by kernel_rfl⟩
theorem lifted (a:Os) (b:a.Started) (H:Type) (enc:TypeId × Value→H) (F:Stop.Interp) :
 ReturnsInHanded {} Tryz.checked a 10 .any ((Rows.OpenSpec.upto Rows.caretThereSpec).preRow enc Tryz.prog Tryz.f10 Rows.caretThereUptoRow.domain false Rows.caretThereUptoRow.laid) (((Rows.OpenSpec.upto Rows.caretThereSpec).at F).post enc Tryz.prog Tryz.f10 false true false false):=by
 obtain⟨m,c⟩:=reads a enc;refine returnsInHanded_of_row (C:=Tryz.checked) (s:=Rows.OpenSpec.upto Rows.caretThereSpec) own b (by kernel_rfl) Tryz.func10
  (witness_row_at (enc:=enc) (C:=Tryz.checked) false (yCl a) wArgs rfl (by kernel_rfl) (by kernel_rfl) (by kernel_rfl)
    (OpenSpec.preRow_of_cond 8 c (by kernel_rfl) (fun k d=>by cases d;kernel_rfl) (by kernel_rfl) (yLi a _))) ?_
 intro W base args e f g h i _ j _ l _ _;exact contract H enc W base args e f g h i (j _ rfl) l
theorem and_tt {a b:Bool} (c:a=true) (d:b=true):(a&&b)=true:=by rw [c,d];rfl
theorem closed:joinedFacts Tryz.pinned.checked.prog 10 Tryz.f10 (Rows.OpenSpec.upto Rows.caretThereSpec).bare Rows.caretThereUptoRow=true:=by
 unfold joinedFacts
 repeat' (with_reducible refine and_tt ?_ ?_)
 all_goals (as_aux_lemma=>kernel_rfl)
theorem said:Rows.CaretThereUptoSaid :=
 OpenClaim.holds_of_cond 10 Tryz.f10 rfl rfl rfl rfl rfl rfl rfl ⟨rfl,rfl,rfl,rfl,rfl⟩ rfl rfl rfl rfl rfl (by kernel_rfl) Tryz.func10 closed
  (JZ (by kernel_rfl)) (by unfold Func.isWrapper;first | (rw [Zg (by decide +kernel)];kernel_rfl) | (rw [Zf (by decide +kernel)];exact⟨rfl,rfl⟩))
  (fun a b H enc _ F=>by rw [OpenClaim.pre_eq_preRow];exact lifted a b H enc F)
theorem plain (f:FuncId) (a:Func) (c:Tryz.pinned.checked.prog.funcNamed "shuttle/shuttlelaw16.CaretThere" = some f) (d:Tryz.pinned.checked.prog.funcs[f]? = some a) :
 false=Tryz.pinned.checked.prog.looks []∧∀(j:Nat) t,a.params[j]? = some t→Tryz.pinned.checked.prog.wantsStandIn t=false:=by
 obtain rfl:f=10:=zu ((show Tryz.prog.funcNamed "shuttle/shuttlelaw16.CaretThere" = some 10 by kernel_rfl).symm.trans c) |>.symm;obtain rfl:a=Tryz.f10:=(zu (Tryz.func10.symm.trans d)).symm;refine⟨by kernel_rfl,fun j t b=>?_⟩;rw [Tryz.params10] at b;have e:t∈[9,33]:=by simpa using Array.mem_of_getElem? b
 have g:([9,33].all fun u=>!Tryz.prog.wantsStandIn u)=true:=by kernel_rfl
 exact (show Tryz.prog.wantsStandIn t=false by simpa using Zs.1 g t e)
theorem proved:Rows.CaretThereUptoCardSaid :=
 Claim7.holds_tied_plain_at .later [] _ _ _ _ said (fun _ h=>by cases h) (by kernel_rfl) (fun _ h=>by cases h) caretThereUpto_row_tie rfl ⟨rfl,rfl⟩ (by kernel_rfl) rfl plain (by kernel_rfl)
#print axioms proved
end Go.Proofs.YtncplikdjcmoeaaGreatDoor.caretThere
