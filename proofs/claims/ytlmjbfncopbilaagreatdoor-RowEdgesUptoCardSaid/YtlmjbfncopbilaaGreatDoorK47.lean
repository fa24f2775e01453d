/- The tied card of RowEdges: at any input the law answers true, what came in stays as it is. Condition: the listed tables stand as the text lays them (the card ties them). -/
import Derived.Test.YtlmjbfncopbilaaGreatDoorCards
import Derived.Test.YtlmjbfncopbilaaGreatDoorTie
import Derived.OpenShut
import Derived.ShutString
import Derived.ChangeOld
import Derived.Below
import Derived.JoinedCond
import Derived.Deep.DeepHandedRow
import Derived.Test.YtlmjbfncopbilaaGreatDoorK09
import Derived.Test.YtlmjbfncopbilaaGreatDoorK45
import Derived.Test.YtlmjbfncopbilaaGreatDoorK46
namespace Go.Proofs.YtlmjbfncopbilaaGreatDoor.rowEdges
set_option linter.unusedVariables false
set_option linter.unusedSimpArgs false
open Go.ChangeShapes Go.WideShapes Go.ChangeAt Go.RowKit
open Go.ChangeMaps (open_string shut_string)
open Go.Proofs.YtlmjbfncopbilaaGreatDoor.bulks Go.Proofs.YtlmjbfncopbilaaGreatDoor.laids
theorem own:ownKnob Tryz.prog.godebug=none:=by kernel_rfl
theorem laidOut:laidOutB Tryz.prog=true:=by kernel_rfl
theorem listOf5 {α:Type} {l:List α} (h:l.length=5):∃a b c d e,l=[a,b,c,d,e]:=by
 match l,h with
 | [a,b,c,d,e],_=>exact⟨a,b,c,d,e,rfl⟩
set_option maxRecDepth 100000 in
theorem contract (H:Type) (enc:TypeId × Value→H) (W:World) (base:Nat) (args:Array Value) (ds gs:List (DataW H)) (before:List MemPlace)
 (hval0:∀(j:Nat) t v,Tryz.f3.params[j]? = some t→args[j]? = some v→Value.okWide Tryz.prog W .any base t v)
 (hW:DataW.Whole enc Tryz.prog Tryz.f3.params.toList Rows.rowEdgesSpec.vars false W args.toList ds gs before) (hk:Rows.uptoSmall H (ds++gs)=true) (hL:laidMetH Tryz.prog Rows.rowEdgesUptoRow.laid W) :
 Calls Tryz.prog 3 args W fun e W'=>∃v,e=.returned v∧Rows.rowEdgesSpec.post enc Tryz.prog Tryz.f3 false true false false W args v W':=by
 have hval:∀(j:Nat) t v,Tryz.f3.params[j]? = some t→args[j]? = some v→Value.okWide Tryz.prog W .any base t v:=hval0
 have hW':=hW
 obtain⟨p,q,hA0,hV,rfl,hfz,hnd⟩:=hW
 have hA:DataW.TrodAll enc Tryz.prog W 0 (fun _=>true) true Tryz.f3.params.toList args.toList ds p:=hA0
 rw [Tryz.params3] at hA hval
 obtain⟨v0,vs0,d0,ds0,p0,q0,hargs,rfl,rfl,h0,r0⟩:=trodAll_cons hA
 obtain⟨v1,vs1,d1,ds1,p1,q1,rfl,rfl,rfl,h1,r1⟩:=trodAll_cons r0
 obtain⟨v2,vs2,d2,ds2,p2,q2,rfl,rfl,rfl,h2,r2⟩:=trodAll_cons r1
 obtain⟨v3,vs3,d3,ds3,p3,q3,rfl,rfl,rfl,h3,r3⟩:=trodAll_cons r2
 obtain⟨rfl,rfl,rfl⟩:=trodAll_nil r3
 obtain rfl:args=#[v0,v1,v2,v3]:=by cases args;simp_all
 obtain⟨rfl,rfl⟩:=trodVars_none hV
 have k1:=h1
 have lt1:∀x∈p1,x.block<W.heap.size:=by obtain⟨m,hm⟩:=k1;exact DataW.trod_lt m _ _ _ hm
 have k2:=h2
 have lt2:∀x∈p2,x.block<W.heap.size:=by obtain⟨m,hm⟩:=k2;exact DataW.trod_lt m _ _ _ hm
 obtain⟨s0,rfl,rfl,rfl,w0⟩:=open_string Tryz.underlying9 (hval 0 9 v0 rfl rfl) h0
 obtain⟨cs1,ys1,n1,rfl,g1d,hcl1,hyl1,hf1⟩:=fields_open (P:=Tryz.prog) Tryz.underlying24 (by kernel_rfl) (by kernel_rfl) (hval 1 24 v1 rfl rfl) h1
 obtain⟨e1_0,e1_1,e1_2,e1_3,e1_4,rfl⟩:=listOf5 hcl1
 obtain⟨y1_0,y1_1,y1_2,y1_3,y1_4,rfl⟩:=listOf5 hyl1
 have t1_0:=hf1 0 _ _ _ rfl rfl rfl
 obtain⟨a1_0,hc1_0,_,wf1_0⟩:=DataW.trod_int Tryz.underlying3 t1_0
 obtain rfl:e1_0=.int .i64 a1_0:=by simpa using hc1_0
 have t1_1:=hf1 1 _ _ _ rfl rfl rfl
 obtain⟨a1_1,hc1_1,_,wf1_1⟩:=DataW.trod_int Tryz.underlying3 t1_1
 obtain rfl:e1_1=.int .i64 a1_1:=by simpa using hc1_1
 have t1_2:=hf1 2 _ _ _ rfl rfl rfl
 obtain⟨a1_2,hc1_2,_,wf1_2⟩:=DataW.trod_int Tryz.underlying5 t1_2
 obtain rfl:e1_2=.int .u8 a1_2:=by simpa using hc1_2
 have t1_3:=hf1 3 _ _ _ rfl rfl rfl
 obtain⟨a1_3,hc1_3,_,wf1_3⟩:=DataW.trod_int Tryz.underlying3 t1_3
 obtain rfl:e1_3=.int .i64 a1_3:=by simpa using hc1_3
 have t1_4:=hf1 4 _ _ _ rfl rfl rfl
 obtain⟨a1_4,hc1_4,_,wf1_4⟩:=DataW.trod_int Tryz.underlying22 t1_4
 obtain rfl:e1_4=.int .i8 a1_4:=by simpa using hc1_4
 obtain⟨cs2,ys2,n2,rfl,g2d,hcl2,hyl2,hf2⟩:=fields_open (P:=Tryz.prog) Tryz.underlying26 (by kernel_rfl) (by kernel_rfl) (hval 2 26 v2 rfl rfl) h2
 obtain⟨e2_0,e2_1,e2_2,e2_3,e2_4,rfl⟩:=listOf5 hcl2
 obtain⟨y2_0,y2_1,y2_2,y2_3,y2_4,rfl⟩:=listOf5 hyl2
 have t2_0:=hf2 0 _ _ _ rfl rfl rfl
 obtain⟨a2_0,hc2_0,_,wf2_0⟩:=DataW.trod_int Tryz.underlying3 t2_0
 obtain rfl:e2_0=.int .i64 a2_0:=by simpa using hc2_0
 have t2_1:=hf2 1 _ _ _ rfl rfl rfl
 obtain⟨a2_1,hc2_1,_⟩:=DataW.trod_bool Tryz.underlying4 t2_1
 obtain rfl:e2_1=.bool a2_1:=by simpa using hc2_1
 have t2_2:=hf2 2 _ _ _ rfl rfl rfl
 obtain⟨a2_2,hc2_2,_,wf2_2⟩:=DataW.trod_int Tryz.underlying22 t2_2
 obtain rfl:e2_2=.int .i8 a2_2:=by simpa using hc2_2
 have t2_3:=hf2 3 _ _ _ rfl rfl rfl
 obtain⟨a2_3,hc2_3,_⟩:=DataW.trod_bool Tryz.underlying4 t2_3
 obtain rfl:e2_3=.bool a2_3:=by simpa using hc2_3
 have t2_4:=hf2 4 _ _ _ rfl rfl rfl
 obtain⟨a2_4,hc2_4,_⟩:=DataW.trod_bool Tryz.underlying4 t2_4
 obtain rfl:e2_4=.bool a2_4:=by simpa using hc2_4
 obtain⟨a3,rfl,rfl,rfl,w3⟩:=open_int Tryz.underlying3 (hval 3 3 v3 rfl rfl) h3
 have hsz:s0.size≤1048576:=by
  have hbd:=bound hk
  simp [Rows.uptoBulkAll,Rows.uptoBulk] at hbd
  have e:s0.data.size=s0.size:=rfl
  omega
 clear hA0 hval0
 obtain⟨hT,hD⟩:=tabs_of hL
 refine (LawRE_any s0 (by omega) a1_0 a1_1 a1_2 a1_3 a1_4 a2_0 a2_2 a2_1 a2_3 a2_4 a3 W hT hD).mono fun e W' ⟨he,bel⟩=>?_
 subst he
 exact⟨_,rfl,_,_,_,[],_,[],hW',trodAll_mk1 (shut_bool Tryz.underlying4 _),(trodAll_cons_mk (shut_string Tryz.underlying9 w0) (trodAll_cons_mk (Below.trod laidOut (by kernel_rfl) (of_decide_eq_true (by kernel_rfl)) k1 bel lt1) (trodAll_cons_mk (Below.trod laidOut (by kernel_rfl) (of_decide_eq_true (by kernel_rfl)) k2 bel lt2) (trodAll_cons_mk (shut_int Tryz.underlying3 w3) trodAll_mk0)))),rfl,bel.frame _,fun h=>by cases h⟩
def wArgs:Array Value:=#[.string ⟨#[]⟩,.agg #[.int .i64 0,.int .i64 0,.int .u8 0,.int .i64 0,.int .i8 0],.agg #[.int .i64 0,.bool false,.int .i8 0,.bool false,.bool false],.int .i64 0]
theorem reads (os:Os) {H:Type} (enc:TypeId × Value→H):∃x,DataW.whole enc Tryz.prog ((laidWorld os).forCall (fun _ _=>0) ⟨#[],wArgs,[]⟩).memory Tryz.f3.params.toList Rows.rowEdgesSpec.vars false wArgs.toList 8 =
 some ([.lit (.string []),.agg [.lit (.int .i64 0),.lit (.int .i64 0),.lit (.int .u8 0),.lit (.int .i64 0),.lit (.int .i8 0)],.agg [.lit (.int .i64 0),.lit (.bool false),.lit (.int .i8 0),.lit (.bool false),.lit (.bool false)],.lit (.int .i64 0)],[],x):=⟨[],by kernel_rfl⟩
set_option maxRecDepth 100000 in
theorem lifted (os:Os) (started:os.Started) (H:Type) (enc:TypeId × Value→H) (F:Stop.Interp) :
 ReturnsInHanded {} Tryz.checked os 3 .any ((Rows.OpenSpec.upto Rows.rowEdgesSpec).preRow enc Tryz.prog Tryz.f3 Rows.rowEdgesUptoRow.domain false Rows.rowEdgesUptoRow.laid) (((Rows.OpenSpec.upto Rows.rowEdgesSpec).at F).post enc Tryz.prog Tryz.f3 false true false false):=by
 obtain⟨places,hx⟩:=reads os enc
 refine returnsInHanded_of_row (C:=Tryz.checked) (s:=Rows.OpenSpec.upto Rows.rowEdgesSpec) own started (by kernel_rfl) Tryz.func3
  (witness_row_at (enc:=enc) (C:=Tryz.checked) false (laidWorld os) wArgs rfl (by kernel_rfl) (by kernel_rfl) (by kernel_rfl)
    (OpenSpec.preRow_of_cond 8 hx (by kernel_rfl) (fun k hk=>by cases hk;kernel_rfl) (by kernel_rfl) (laid_met os _))) ?_
 intro W base args ds gs before hval hW _ hcond _ hL _ _
 exact contract H enc W base args ds gs before hval hW (hcond _ rfl) hL
theorem and_tt {a b:Bool} (h1:a=true) (h2:b=true):(a&&b)=true:=by rw [h1,h2];rfl
set_option maxRecDepth 100000 in
set_option maxHeartbeats 4000000 in
theorem closed:joinedFacts Tryz.pinned.checked.prog 3 Tryz.f3 (Rows.OpenSpec.upto Rows.rowEdgesSpec).bare Rows.rowEdgesUptoRow=true:=by
 unfold joinedFacts
 repeat' (with_reducible refine and_tt ?_ ?_)
 all_goals (as_aux_lemma=>kernel_rfl)
theorem said:Rows.RowEdgesUptoSaid :=
 OpenClaim.holds_of_cond 3 Tryz.f3 rfl rfl rfl rfl rfl rfl rfl ⟨rfl,rfl,rfl,rfl,rfl⟩ rfl rfl rfl rfl rfl (by kernel_rfl) Tryz.func3 closed
  (of_decide_eq_true (by kernel_rfl)) (by unfold Func.isWrapper;first | (rw [if_pos (by decide +kernel)];kernel_rfl) | (rw [if_neg (by decide +kernel)];exact⟨rfl,rfl⟩))
  (fun os started H enc _ F=>by rw [OpenClaim.pre_eq_preRow];exact lifted os started H enc F)
theorem plain (f:FuncId) (fn:Func) (hf:Tryz.pinned.checked.prog.funcNamed "shuttle/shuttlelaw15.RowEdges" = some f) (hfn:Tryz.pinned.checked.prog.funcs[f]? = some fn) :
 false=Tryz.pinned.checked.prog.looks []∧∀(j:Nat) t,fn.params[j]? = some t→Tryz.pinned.checked.prog.wantsStandIn t=false:=by
 obtain rfl:f=3:=Option.some.inj ((show Tryz.prog.funcNamed "shuttle/shuttlelaw15.RowEdges" = some 3 by kernel_rfl).symm.trans hf) |>.symm
 obtain rfl:fn=Tryz.f3:=(Option.some.inj (Tryz.func3.symm.trans hfn)).symm
 refine⟨by kernel_rfl,fun j t ht=>?_⟩
 rw [Tryz.params3] at ht
 have hm:t∈[9,24,26,3]:=by simpa using Array.mem_of_getElem? ht
 have hall:([9,24,26,3].all fun u=>!Tryz.prog.wantsStandIn u)=true:=by kernel_rfl
 exact (show Tryz.prog.wantsStandIn t=false by simpa using List.all_eq_true.1 hall t hm)
theorem proved:Rows.RowEdgesUptoCardSaid :=
 Claim7.holds_tied_plain_at .later [] _ _ _ _ said (fun _ h=>by cases h) (by kernel_rfl) (fun _ h=>by cases h) rowEdgesUpto_row_tie rfl ⟨rfl,rfl⟩ (by kernel_rfl) rfl plain (by kernel_rfl)
#print axioms proved
end Go.Proofs.YtlmjbfncopbilaaGreatDoor.rowEdges
