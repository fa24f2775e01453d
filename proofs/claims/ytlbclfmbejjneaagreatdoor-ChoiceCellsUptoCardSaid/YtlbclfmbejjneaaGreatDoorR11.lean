/- Part 11 (merged by a program): lemmas of no further condition than each states. -/
import Derived.OrdersHeld
import Derived.OrdersIn
import Derived.Test.YtlbclfmbejjneaaGreatDoorR06
namespace Go.Proofs.YtlbclfmbejjneaaGreatDoor
set_option linter.unusedVariables false
set_option linter.unusedSimpArgs false
section
open Go.RowKit Go.Proofs
def wsortI (c:ByteArray):Int :=
 if decR c=65533∧decN c<2 then 0
 else if kindI (decR c)=3∧breakI (decR c)=7 then 2
 else if kindI (decR c)=3∨kindI (decR c)=2∨decR c=95 then 3
 else if kindI (decR c)=4 then 4
 else if decR c=9∨(kindI (decR c)=5∧breakI (decR c)≠2) then 1
 else 0
theorem wsort_any (c:ByteArray) (w:World) (hT:T8 w):Calls Tryz.prog 121 #[.string c] w fun e w'=>e=.returned (.int .i64 (wsortI c))∧Below w.heap.size w w':=by
 obtain⟨X,hX⟩:∃X,decR c=X:=⟨_,rfl⟩
 obtain⟨K,hK⟩:∃K,decN c=K:=⟨_,rfl⟩
 obtain⟨b,hb⟩:∃b,breakI X=b:=⟨_,rfl⟩
 obtain⟨k,hk⟩:∃k,kindI X=k:=⟨_,rfl⟩
 obtain⟨V,hV⟩:∃V,wsortI c=V:=⟨_,rfl⟩
 have hv:V=if X=65533∧K<2 then 0 else if k=3∧b=7 then 2 else if k=3∨k=2∨X=95 then 3 else if k=4 then 4 else if X=9∨(k=5∧b≠2) then 1 else 0:=by rw [←hV];unfold wsortI;rw [hX,hK,hb,hk]
 have HV:=lh hv
 have hN:=lh (sNext_any c w hT)
 have hB:=lh (fun W=>Break_any X W)
 have hKi:=lh (fun W=>Kind_any X W)
 rw [hV]
 rw [hX,hK] at hN
 rw [hb] at hB
 rw [hk] at hKi
 clear hV hv hX hK hb hk hT
 go_enter Tryz.func121,Tryz.ntmps121
 go_upto_region 2 with (go_at_call 37;refine hN.out.mono ?_;rintro e w1 ⟨rfl,hb1⟩)
 by_cases e0:X=65533∧K<2
 ·obtain⟨e1,e2⟩:=e0
  have cx:(X==65533)=true:=beq_iff_eq.2 e1
  have g1:(K:Int)<2:=by omega
  go_wp2_with (fail)
  go_ret
  exact⟨ret_i (by rw [HV.out,if_pos ⟨e1,e2⟩]),hb1⟩
 have HV1:=HV.out
 rw [if_neg e0] at HV1
 have HV2:=lh HV1
 clear HV1 HV
 by_cases ex:X=65533
 ·have cx:(X==65533)=true:=beq_iff_eq.2 ex
  have g1:¬ (K:Int)<2:=fun h=>e0 ⟨ex,by omega⟩
  clear e0 ex
  go_upto_block 0 with (first
   | (go_at_call 56;refine (hKi.out _).mono ?_;rintro e w2 ⟨rfl,hb2⟩)
   | (go_at_call 73;refine (hB.out _).mono ?_;rintro e w3 ⟨rfl,hb3⟩))
  have hb13:=hb1.trans ((hb2.trans (hb3.mono hb2.size)).mono hb1.size)
  clear hb1 hb2 hb3 hN hB hKi
  by_cases ek3:k=3
  ·have tk3:(k==3)=true:=beq_iff_eq.2 ek3
   by_cases eb7:b=7
   ·have tb7:(b==7)=true:=beq_iff_eq.2 eb7
    go_wp2_with (fail)
    go_ret
    exact⟨ret_i (by rw [HV2.out];rw [if_pos ⟨ek3,eb7⟩]),hb13⟩
   ·have fb7:(b==7)=false:=beq_eq_false_iff_ne.2 eb7
    go_wp2_with (fail)
    go_ret
    exact⟨ret_i (by rw [HV2.out];rw [if_neg (fun h=>eb7 h.2),if_pos (.inl ek3)]),hb13⟩
  ·have fk3:(k==3)=false:=beq_eq_false_iff_ne.2 ek3
   by_cases ek2:k=2
   ·have tk2:(k==2)=true:=beq_iff_eq.2 ek2
    go_wp2_with (fail)
    go_ret
    exact⟨ret_i (by rw [HV2.out];rw [if_neg (fun h=>ek3 h.1),if_pos (.inr (.inl ek2))]),hb13⟩
   ·have fk2:(k==2)=false:=beq_eq_false_iff_ne.2 ek2
    by_cases eX95:X=95
    ·have tX95:(X==95)=true:=beq_iff_eq.2 eX95
     go_wp2_with (fail)
     go_ret
     exact⟨ret_i (by rw [HV2.out];rw [if_neg (fun h=>ek3 h.1),if_pos (.inr (.inr eX95))]),hb13⟩
    ·have fX95:(X==95)=false:=beq_eq_false_iff_ne.2 eX95
     have n3:¬ (k=3∨k=2∨X=95):=fun h=>h.elim ek3 (fun h=>h.elim ek2 eX95)
     by_cases ek4:k=4
     ·have tk4:(k==4)=true:=beq_iff_eq.2 ek4
      go_wp2_with (fail)
      go_ret
      exact⟨ret_i (by rw [HV2.out];rw [if_neg (fun h=>ek3 h.1),if_neg n3,if_pos ek4]),hb13⟩
     ·have fk4:(k==4)=false:=beq_eq_false_iff_ne.2 ek4
      by_cases eX9:X=9
      ·have tX9:(X==9)=true:=beq_iff_eq.2 eX9
       go_wp2_with (fail)
       go_ret
       exact⟨ret_i (by rw [HV2.out];rw [if_neg (fun h=>ek3 h.1),if_neg n3,if_neg ek4,if_pos (.inl eX9)]),hb13⟩
      ·have fX9:(X==9)=false:=beq_eq_false_iff_ne.2 eX9
       by_cases ek5:k=5
       ·have tk5:(k==5)=true:=beq_iff_eq.2 ek5
        by_cases eb2:b=2
        ·have tb2:(b != 2)=false:=by simpa using eb2
         go_wp2_with (fail)
         go_ret
         exact⟨ret_i (by rw [HV2.out];rw [if_neg (fun h=>ek3 h.1),if_neg n3,if_neg ek4,if_neg (fun h=>h.elim eX9 (fun h=>h.2 eb2))]),hb13⟩
        ·have tb2:(b != 2)=true:=by simpa using eb2
         go_wp2_with (fail)
         go_ret
         exact⟨ret_i (by rw [HV2.out];rw [if_neg (fun h=>ek3 h.1),if_neg n3,if_neg ek4,if_pos (.inr ⟨ek5,eb2⟩)]),hb13⟩
       ·have fk5:(k==5)=false:=beq_eq_false_iff_ne.2 ek5
        go_wp2_with (fail)
        go_ret
        exact⟨ret_i (by rw [HV2.out];rw [if_neg (fun h=>ek3 h.1),if_neg n3,if_neg ek4,if_neg (fun h=>h.elim eX9 (fun h=>ek5 h.1))]),hb13⟩
 ·have cx:(X==65533)=false:=beq_eq_false_iff_ne.2 ex
  clear e0
  go_upto_block 0 with (first
   | (go_at_call 56;refine (hKi.out _).mono ?_;rintro e w2 ⟨rfl,hb2⟩)
   | (go_at_call 73;refine (hB.out _).mono ?_;rintro e w3 ⟨rfl,hb3⟩))
  have hb13:=hb1.trans ((hb2.trans (hb3.mono hb2.size)).mono hb1.size)
  clear hb1 hb2 hb3 hN hB hKi
  by_cases ek3:k=3
  ·have tk3:(k==3)=true:=beq_iff_eq.2 ek3
   by_cases eb7:b=7
   ·have tb7:(b==7)=true:=beq_iff_eq.2 eb7
    go_wp2_with (fail)
    go_ret
    exact⟨ret_i (by rw [HV2.out];rw [if_pos ⟨ek3,eb7⟩]),hb13⟩
   ·have fb7:(b==7)=false:=beq_eq_false_iff_ne.2 eb7
    go_wp2_with (fail)
    go_ret
    exact⟨ret_i (by rw [HV2.out];rw [if_neg (fun h=>eb7 h.2),if_pos (.inl ek3)]),hb13⟩
  ·have fk3:(k==3)=false:=beq_eq_false_iff_ne.2 ek3
   by_cases ek2:k=2
   ·have tk2:(k==2)=true:=beq_iff_eq.2 ek2
    go_wp2_with (fail)
    go_ret
    exact⟨ret_i (by rw [HV2.out];rw [if_neg (fun h=>ek3 h.1),if_pos (.inr (.inl ek2))]),hb13⟩
   ·have fk2:(k==2)=false:=beq_eq_false_iff_ne.2 ek2
    by_cases eX95:X=95
    ·have tX95:(X==95)=true:=beq_iff_eq.2 eX95
     go_wp2_with (fail)
     go_ret
     exact⟨ret_i (by rw [HV2.out];rw [if_neg (fun h=>ek3 h.1),if_pos (.inr (.inr eX95))]),hb13⟩
    ·have fX95:(X==95)=false:=beq_eq_false_iff_ne.2 eX95
     have n3:¬ (k=3∨k=2∨X=95):=fun h=>h.elim ek3 (fun h=>h.elim ek2 eX95)
     by_cases ek4:k=4
     ·have tk4:(k==4)=true:=beq_iff_eq.2 ek4
      go_wp2_with (fail)
      go_ret
      exact⟨ret_i (by rw [HV2.out];rw [if_neg (fun h=>ek3 h.1),if_neg n3,if_pos ek4]),hb13⟩
     ·have fk4:(k==4)=false:=beq_eq_false_iff_ne.2 ek4
      by_cases eX9:X=9
      ·have tX9:(X==9)=true:=beq_iff_eq.2 eX9
       go_wp2_with (fail)
       go_ret
       exact⟨ret_i (by rw [HV2.out];rw [if_neg (fun h=>ek3 h.1),if_neg n3,if_neg ek4,if_pos (.inl eX9)]),hb13⟩
      ·have fX9:(X==9)=false:=beq_eq_false_iff_ne.2 eX9
       by_cases ek5:k=5
       ·have tk5:(k==5)=true:=beq_iff_eq.2 ek5
        by_cases eb2:b=2
        ·have tb2:(b != 2)=false:=by simpa using eb2
         go_wp2_with (fail)
         go_ret
         exact⟨ret_i (by rw [HV2.out];rw [if_neg (fun h=>ek3 h.1),if_neg n3,if_neg ek4,if_neg (fun h=>h.elim eX9 (fun h=>h.2 eb2))]),hb13⟩
        ·have tb2:(b != 2)=true:=by simpa using eb2
         go_wp2_with (fail)
         go_ret
         exact⟨ret_i (by rw [HV2.out];rw [if_neg (fun h=>ek3 h.1),if_neg n3,if_neg ek4,if_pos (.inr ⟨ek5,eb2⟩)]),hb13⟩
       ·have fk5:(k==5)=false:=beq_eq_false_iff_ne.2 ek5
        go_wp2_with (fail)
        go_ret
        exact⟨ret_i (by rw [HV2.out];rw [if_neg (fun h=>ek3 h.1),if_neg n3,if_neg ek4,if_neg (fun h=>h.elim eX9 (fun h=>ek5 h.1))]),hb13⟩
end
section
open Go.RowKit Go.Proofs Go.Shelf
theorem eq_fnN (n:Nat) (fn:Fn) (fs cs:Array Value) (w:World):(Op.equalIn (n+1) 40 (.func fn fs cs) .nilFunc).run Tryz.prog w=.ok false w:=by
 unfold Op.equalIn
 simp [run_underlying Tryz.underlying40,Sem.run_bind]
theorem eq_fn (fn:Fn) (fs cs:Array Value) (w:World):(binOp BinOp.eql 40 (.func fn fs cs) .nilFunc).run Tryz.prog w=.ok (.bool false) w:=by
 have h:=eq_fnN 9999 fn fs cs w
 simp only [binOp,Op.equal]
 rw [show Op.maxDepth=9999+1 from rfl]
 simp [h]
end
section
open Go Go.RowKit
def plainB (o:Oper):Bool:=match o.op with
 | .move _ | .assign _ | .pick _ _ _ | .load _ _ | .binOp _ _ _ _ _ | .unOp _ _ _ | .slice _ _ _ _ _ | .fieldAddr _ _ _ | .field _ _ _ | .indexAddr _ _ _ | .index _ _ _ | .extract _ _ | .build _ _=>true
 | .nilCheck _=>true
 | .call c=>match c.callee with
   | .builtin .len=>true
   | _=>false
 | _=>false
theorem v_run {P:Program} {s:Sem Value} {w w':World} {n:Next} (h:(s >>= fun x=>pure (Next.value x)).run P w=.ok n w'):∃u,n=.value u:=by
 rw [Sem.run_bind] at h
 cases hs:s.run P w with
 | ok x w1 =>
   rw [hs,Result.andThen_ok,Sem.run_pure] at h
   cases h
   exact⟨x,rfl⟩
 | halt x w1=>rw [hs] at h;cases h
theorem v_any {P:Program} {α:Type} {x:Sem α} {f:α→Sem Next} (hf:∀a w n w',(f a).run P w=.ok n w'→∃u,n=.value u) {w w':World} {n:Next} (h:(x >>= f).run P w=.ok n w'):∃u,n=.value u:=by
 rw [Sem.run_bind] at h
 cases hs:x.run P w with
 | ok a w1=>rw [hs,Result.andThen_ok] at h;exact hf _ _ _ _ h
 | halt a w1=>rw [hs] at h;cases h
theorem plain_run {P:Program} {o:Oper} {ρ:Operand→Value} {w w':World} {n:Next} (hp:plainB o=true) (h:(execOp ρ o).run P w=.ok n w'):∃u,n=.value u:=by
 unfold plainB at hp
 unfold execOp at h
 cases ho:o.op <;> rw [ho] at hp h <;> first | (cases hp;done) | skip
 all_goals dsimp only at h
 case call c =>
  dsimp only at hp
  cases hc:c.callee with
  | builtin b =>
    rw [hc] at hp
    cases b <;> first | (cases hp;done) | skip
    simp only [resolve,hc,Sem.run_bind,Sem.run_pure,Result.andThen_ok,invoke,builtin] at h
    cases hs:(Builtin.len_ c.argTypes o.type (Array.map ρ c.args)).run P w with
    | ok x w1=>rw [hs,Result.andThen_ok] at h;cases h;exact⟨x,rfl⟩
    | halt x w1=>rw [hs] at h;cases h
  | value x=>rw [hc] at hp;cases hp
  | _=>rw [hc] at hp;cases hp
 case move=>rw [Sem.run_pure] at h;cases h;exact⟨_,rfl⟩
 case assign=>rw [Sem.run_pure] at h;cases h;exact⟨_,rfl⟩
 case nilCheck x =>
  split at h
  any_goals (simp [runtimePanic] at h;done)
  any_goals (rw [Sem.run_pure] at h;cases h;exact⟨_,rfl⟩)
  split at h
  ·simp [runtimePanic] at h
  ·refine v_any (fun b w2 n2 w2' h2=>?_) h
   refine v_any (fun c w3 n3 w3' h3=>?_) h2
   split at h3
   ·refine v_any (fun b w2 n2 w2' h2=>?_) h3
    rw [Sem.run_pure] at h2;cases h2;exact⟨_,rfl⟩
   ·rw [Sem.run_pure] at h3;cases h3;exact⟨_,rfl⟩
  ·rw [Sem.run_pure] at h;cases h;exact⟨_,rfl⟩
 case pick =>
  rw [Sem.run_bind] at h
  cases hs:(asBool _).run P w with
  | ok x w1=>rw [hs,Result.andThen_ok,Sem.run_pure] at h;cases h;exact⟨_,rfl⟩
  | halt x w1=>rw [hs] at h;cases h
 all_goals exact v_run h
section
variable {P:Program} {ops:Array Oper} {Q:Exit→Act→World→Prop} {md:Region.Mode} {S:World→Prop}
structure WIn (S:World→Prop) where
 w:World
 h:S w
def CS (S:World→Prop):World→Prop:=fun w'=>∃p:WIn S,w'=p.w
theorem CS.of {w:World} (h:S w):CS S w:=⟨⟨w,h⟩,rfl⟩
theorem quiet_plain {o:Oper} {a:Act} {v:Value} {w:World} (hp:plainB o=true) (h:o.quietAt P a (CS S) w v):(execOp a.eval o).run P w=.ok (.value v) w:=by
 unfold Oper.quietAt at h
 cases hr:(execOp a.eval o).run P w with
 | halt x w'=>rw [hr] at h;simp only [Oper.quietUpon] at h
 | ok n w' =>
   obtain⟨u,rfl⟩:=plain_run hp hr
   rw [hr] at h
   simp only [Oper.quietUpon] at h
   obtain⟨rfl,rfl⟩:=h
   rfl
def setN:Nat→Nat→Array Bool→Array Bool
 | 0,_,l=>l
 | m+1,k,l=>setN m (k+1) (l.setIfInBounds k true)
def plainAt (ops:Array Oper) (k:Nat):Bool:=match ops[k]? with
 | some o=>plainB o
 | none=>false
def headB (md:Region.Mode) (ops:Array Oper):Nat→Nat→Array Bool→Bool
 | 0,_,_=>true
 | m+1,k,l=>(Region.ready md ops l).contains k&&Region.free md ops l k&&plainAt ops k&&headB md ops m (k+1) (l.setIfInBounds k true)
theorem head_walk (hs:Region.noSelect ops=true) (hQ:∀c a a' w,Q (.panic c) a w→Q (.panic c) a' w) {Lq:Act→Prop} {fuel:Nat} {w:World} (hS:S w) :
 ∀(h:List Oper) (k:Nat) (l:Array Bool) (a:Act),(∀j,j<h.length→h[j]? = ops[k+j]?)→headB md ops h.length k l=true→wpQuiet P ops (CS S) Lq h a →
   (∀a',Lq a'→wpAnyH P md ops Q S fuel (setN h.length k l) a' w)→wpAnyH P md ops Q S (h.length+fuel) l a w
 | [],k,l,a,_,_,hw,hn=>by rw [List.length_nil,Nat.zero_add];exact hn a hw
 | o::h,k,l,a,he,hB,hw,hn=>by
   have h0:ops[k]? = some o:=by have:=he 0 (by simp);simpa using this.symm
   simp only [List.length_cons,headB,Bool.and_eq_true] at hB
   obtain⟨⟨⟨hr,hf⟩,hp⟩,hB'⟩:=hB
   have hpl:plainB o=true:=by unfold plainAt at hp;rw [h0] at hp;exact hp
   have hq:∃v,YieldsIf P ops S o v a∧wpQuiet P ops (CS S) Lq h (a.put o.dst v):=by
    unfold wpQuiet at hw
    split at hw
    ·rename_i hwt
     obtain⟨v,h1,h2⟩:=hw
     exact⟨v,.inl ⟨hwt,fun w' hw'=>quiet_plain hpl (h1 w' (CS.of hw'))⟩,h2⟩
    ·rename_i hwt
     exact⟨undef,.inr ⟨by simpa using hwt,rfl⟩,hw⟩
   obtain⟨v,hy,hw2⟩:=hq
   rw [List.length_cons,show h.length+1+fuel=(h.length+fuel)+1 by omega]
   refine wpAnyH_take h0 hs hf hr (fun c a' w' hh=>hQ c _ _ w' hh) hy hS ?_
   exact head_walk hs hQ hS h (k+1) _ _ (fun j hj=>by have:=he (j+1) (by simp;omega);simpa [Nat.add_assoc,Nat.add_comm 1 j] using this) hB' hw2 hn
theorem oper_wp_then {o:Oper} {a:Act} {w:World} {K K':Act→World→Prop} (h:o.wp P a w K (Exit.then K' Q)):o.wp P a w K Q:=by
 unfold Oper.wp at *
 generalize (execOp a.eval o).run P w=r at *
 cases r with
 | ok n w' =>
   cases n <;> simp only [Oper.upon] at h ⊢ <;>
    first
     | exact h
     | exact Calls.mono h (fun e w'' he=>by cases e <;> first | exact he | skip)
 | halt x w'=>cases x <;> simp only [Oper.upon] at h ⊢ <;> exact h
theorem loud_walk {k:Nat} {o:Oper} {fuel:Nat} {l:Array Bool} {a:Act} {w:World} {Nx:Act→World→Prop} (h0:ops[k]? = some o) (hr:Region.ready md ops l=[k]) (hS:S w)
 (hSu:Region.wanted o (yielded ops a.tmps)=true)
 (h:∀K:Act→World→Prop,(∀a w,S w→Nx a w→K a w)→wpList P ops (Exit.then K Q) [o] a w) (hn:∀a w,S w→Nx a w→wpAnyH P md ops Q S fuel (l.setIfInBounds k true) a w):wpAnyH P md ops Q S (fuel+1) l a w:=by
 refine wpAnyH_all hr (by simp) (fun i hi=>?_)
 obtain rfl:i=k:=by simpa using hi
 have h1:=h (fun a w=>S w∧wpAnyH P md ops Q S fuel (l.setIfInBounds i true) a w) (fun a w h2 h3=>⟨h2,hn a w h2 h3⟩)
 unfold wpOp
 rw [h0]
 dsimp only
 rw [if_pos hSu]
 unfold wpList at h1
 rw [if_pos hSu] at h1
 rcases h1 with h1 | h1
 ·exact .inl (oper_wp_then h1)
 ·exact .inr h1
def segH (P:Program) (ops:Array Oper) (S:World→Prop) (Q:Exit→Act→World→Prop):List Nat→List Oper→Act→World→Prop
 | [],l,a,w=>wpQuiet P ops (fun w'=>∃p:WIn S,w'=p.w) (fun a'=>Q .normal a' w) l a
 | n::ns,l,a,w=>wpQuiet P ops (fun w'=>∃p:WIn S,w'=p.w) (fun a'=>∀K:Act→World→Prop,(∀a w,S w→segH P ops S Q ns (l.drop (n+1)) a w→K a w)→wpList P ops (Exit.then K Q) ((l.drop n).take 1) a' w) (l.take n) a
def loudAt (ops:Array Oper) (k:Nat):Bool:=match ops[k]? with
 | some o=>o.guard.isNone
 | none=>false
def segB (md:Region.Mode) (ops:Array Oper):List Nat→Nat→Nat→Array Bool→Bool
 | [],m,k,l=>headB md ops m k l&&(Region.ready md ops (setN m k l)).isEmpty
 | n::ns,m,k,l=>decide (n<m)&&headB md ops n k l&&decide (Region.ready md ops (setN n k l)=[k+n])&&loudAt ops (k+n)&&segB md ops ns (m-(n+1)) (k+n+1) ((setN n k l).setIfInBounds (k+n) true)
theorem seg_walk (hs:Region.noSelect ops=true) (hQ:∀c a a' w,Q (.panic c) a w→Q (.panic c) a' w) :
 ∀(ns:List Nat) (l:List Oper) (k:Nat) (li:Array Bool) (a:Act) (w:World),(∀j,l[j]? = ops[k+j]?)→segB md ops ns l.length k li=true→S w→segH P ops S Q ns l a w→wpAnyH P md ops Q S l.length li a w
 | [],l,k,li,a,w,he,hB,hS,h=>by
   simp only [segB,Bool.and_eq_true] at hB
   unfold segH at h
   have:=head_walk (fuel:=0) hs hQ hS l k li a (fun j _=>he j) hB.1 h (fun a' ha=>wpAnyH_done (by simpa using hB.2) ha 0)
   simpa using this
 | n::ns,l,k,li,a,w,he,hB,hS,h=>by
   simp only [segB,Bool.and_eq_true,decide_eq_true_eq] at hB
   obtain⟨⟨⟨⟨hn,hB1⟩,hr⟩,hl⟩,hB2⟩:=hB
   unfold segH at h
   have htl:(l.take n).length=n:=by simp;omega
   have hdl:(l.drop (n+1)).length=l.length-(n+1):=by simp
   obtain⟨o,ho⟩:∃o,l[n]? = some o:=⟨_,List.getElem?_eq_getElem hn⟩
   have hok:ops[k+n]? = some o:=by rw [←he n];exact ho
   have hd:(l.drop n).take 1=[o]:=by
    rw [List.drop_eq_getElem_cons hn]
    have:l[n]=o:=by rw [List.getElem?_eq_getElem hn] at ho;exact Option.some.inj ho
    simp [this]
   have hg:∀a':Act,Region.wanted o (yielded ops a'.tmps)=true:=fun a'=>by
    unfold loudAt at hl
    rw [hok] at hl
    unfold Region.wanted
    have:o.guard=none:=by simpa using hl
    rw [this]
   have key:=head_walk (Lq:=fun a'=>∀K:Act→World→Prop,(∀a w,S w→segH P ops S Q ns (l.drop (n+1)) a w→K a w)→wpList P ops (Exit.then K Q) ((l.drop n).take 1) a' w) (fuel:=(l.drop (n+1)).length+1) hs hQ hS (l.take n) k li a
    (fun j hj=>by rw [htl] at hj;rw [List.getElem?_take,if_pos hj];exact he j) (by rw [htl];exact hB1) h (fun a' ha=>by
      rw [htl]
      rw [hd] at ha
      refine loud_walk hok hr hS (hg a') ha (fun a2 w2 hS2 h2=>?_)
      exact seg_walk hs hQ ns (l.drop (n+1)) (k+n+1) _ a2 w2 (fun j=>by rw [List.getElem?_drop,he];congr 1;omega) (by rw [hdl];exact hB2) hS2 h2)
   rw [htl,hdl] at key
   rw [show l.length=n+(l.length-(n+1)+1) by omega]
   exact key
theorem oper_round {o:Oper} {a:Act} {w:World} {K:Act→World→Prop} {n r:Nat} (hd:∀c,o.op≠.defer c) (h:o.wp P a w K Q):o.wpIn (Fence.wide.inRound r) n P a w K Q:=by
 unfold Oper.wpIn
 refine⟨fun _ _=>trivial,?_⟩
 rw [Oper.semAt_eq _ _ _ hd]
 unfold Oper.wp at h
 generalize (execOp a.eval o).run P w=x at *
 cases x with
 | ok m w' =>
   cases m <;> simp only [Oper.upon] at h <;> simp only [Oper.uponIn]
   case value=>exact h
   case skip=>exact h
   case defer=>exact h
   case enter f args =>
    refine⟨(fun hh=>by cases hh),CallsIn.inRound r ((callsIn_wide.2 h).mono fun e w'' he=>?_)⟩
    cases e <;> exact he
   case row row args =>
    exact⟨(fun hh=>by cases hh),fun c cs _=>let ⟨v,w',r,s⟩:=h c cs;⟨v,w',r,stepsIn_wide.2 s⟩⟩
 | halt y w'=>cases y <;> simp only [Oper.upon] at h <;> simp only [Oper.uponIn] <;> exact h
theorem any_round (hd:∀(i:Nat) (o:Oper),ops[i]? = some o→∀c,o.op≠.defer c) (hO:∀a w,¬ Q .outgrown a w) {n r:Nat} :
 ∀(fuel:Nat) (l:Array Bool) (a:Act) (w:World),wpAny P md ops Q fuel l a w→wpAnyIn (Fence.wide.inRound r) n P md ops Q fuel l a w
 | 0,l,a,w,h=>h
 | fuel+1,l,a,w,h=>by
   refine⟨h.1,fun i hi=>?_⟩
   have h2:=h.2 i hi
   unfold wpOp at h2
   unfold wpOpIn
   split
   ·rename_i ho;rw [ho] at h2;exact any_round hd hO fuel _ _ _ h2
   ·rename_i o ho
    rw [ho] at h2
    dsimp only at h2
    split
    ·rename_i hw
     rw [if_pos hw] at h2
     rcases h2 with h2 | ⟨_,a',w',h3⟩
     ·exact oper_round (hd i o ho) (Oper.wp_mono (fun a w hk=>any_round hd hO fuel _ _ _ hk) h2)
     ·exact absurd h3 (hO a' w')
    ·rename_i hw
     rw [if_neg hw] at h2
     exact⟨fun _ _=>trivial,any_round hd hO fuel _ _ _ h2⟩
def nop (o:Oper):Oper:={ o with op:=.move (.const undef),dst:=none }
def nopLast:List Oper→List Oper
 | []=>[]
 | [o]=>[nop o]
 | o::p::l=>o::nopLast (p::l)
def lastOf:List Oper→List Oper
 | []=>[]
 | [o]=>[o]
 | _::p::l=>lastOf (p::l)
theorem last_split:∀(l:List Oper),l≠[]→∃h o,l=h++[o]∧nopLast l=h++[nop o]∧lastOf l=[o]
 | [],h=>absurd rfl h
 | [o],_=>⟨[],o,rfl,rfl,rfl⟩
 | o::p::l,_=>by
   obtain⟨h,q,e1,e2,e3⟩:=last_split (p::l) (by simp)
   exact⟨o::h,q,by rw [List.cons_append,←e1],by rw [nopLast,e2];rfl,by rw [lastOf,e3]⟩
def lastB (md:Region.Mode) (ops:Array Oper) (n:Nat):Bool :=
 ((List.range n).all fun i=>match ops[n]? with
   | some o=>o.after.any fun e=>Region.binds md e&&e.on==i
   | none=>false) &&
 ((List.range (n+1)).all fun i=>match ops[i]? with
   | some o=>o.after.all fun e=>!Region.binds md e||decide (e.on<i)
   | none=>false) &&
 match ops[n]? with
  | some o=>o.guard.isNone&&o.dst.isNone
  | none=>false
theorem nop_get (h:List Oper) (o:Oper) (i:Nat):(h++[nop o]).toArray[i]? = if i=h.length then some (nop o) else (h++[o]).toArray[i]?:=by
 by_cases e:i=h.length
 ·subst e;simp
 ·rw [if_neg e]
  simp only [List.getElem?_toArray]
  rcases Nat.lt_or_ge i h.length with hl | hl
  ·rw [List.getElem?_append_left hl,List.getElem?_append_left hl]
  ·rw [List.getElem?_eq_none (by simp;omega),List.getElem?_eq_none (by simp;omega)]
theorem nop_ready (h:List Oper) (o:Oper) (L:Array Bool):Region.ready md (h++[nop o]).toArray L=Region.ready md (h++[o]).toArray L:=by
 unfold Region.ready
 rw [show (h++[nop o]).toArray.size=(h++[o]).toArray.size by simp]
 refine List.filter_congr fun i hi=>?_
 rw [nop_get]
 by_cases e:i=h.length
 ·subst e
  rw [if_pos rfl]
  simp only [List.getElem?_toArray,List.getElem?_concat_length]
  rfl
 ·rw [if_neg e]
theorem nop_yielded (h:List Oper) (o:Oper) (ho:o.dst=none) (tmps:Array Value):yielded (h++[nop o]).toArray tmps=yielded (h++[o]).toArray tmps:=by
 funext i
 unfold yielded
 rw [nop_get]
 by_cases e:i=h.length
 ·subst e
  rw [if_pos rfl]
  simp only [List.getElem?_toArray,List.getElem?_concat_length,Option.bind_some,ho]
  rfl
 ·rw [if_neg e]
theorem all_listed {n:Nat} {L:Array Bool} (hB:lastB md ops n=true) (hs:ops.size=n+1) (hL:L.size=n+1) (hr:Region.ready md ops L=[]):∀i,i≤n→L.getD i true=true:=by
 intro i
 induction i using Nat.strongRecOn with
 | _ i ih =>
   intro hi
   by_cases hl:L.getD i true=true
   ·exact hl
   ·exfalso
    have hl':L.getD i true=false:=by simpa using hl
    simp only [lastB,Bool.and_eq_true,List.all_eq_true,List.mem_range] at hB
    have h2:=hB.1.2 i (by omega)
    have hio:i<ops.size:=by omega
    rw [Array.getElem?_eq_getElem hio] at h2
    have hm:i∈Region.ready md ops L:=mem_ready.2 ⟨hl',ops[i],Array.getElem?_eq_getElem hio,fun e he hb=>by
     have h3:=Array.all_eq_true'.1 h2 e he
     rw [hb] at h3
     have h4:e.on<i:=by simpa using h3
     have h5:=ih e.on h4 (by omega)
     have:e.on<L.size:=by omega
     simp [this] at h5 ⊢
     exact h5⟩
    rw [hr] at hm
    cases hm
theorem nop_asks (o:Oper) (a:Act) (w:World):¬ (nop o).asks P a w:=by
 unfold Oper.asks
 intro h
 exact absurd (show noRoomEvent∈(#[]:Array Event) from h.1) (by simp)
theorem nop_any (h:List Oper) (o:Oper) (hB:lastB md (h++[o]).toArray h.length=true):∀(fuel:Nat) (L:Array Bool) (a:Act) (w:World),L.size=h.length+1→L.getD h.length true=false →
 wpAny P md (h++[nop o]).toArray (Exit.then (fun a w=>wpList P (h++[o]).toArray Q [o] a w) Q) fuel L a w→wpAny P md (h++[o]).toArray Q fuel L a w
 | 0,L,a,w,hL,hn,hh=>by
   have hr:=hh.1
   rw [nop_ready] at hr
   have:=all_listed hB (by simp) hL hr h.length (Nat.le_refl _)
   rw [hn] at this
   cases this
 | fuel+1,L,a,w,hL,hn,hh=>by
   have hno:Region.ready md (h++[o]).toArray L≠[]:=fun hr=>by
    have:=all_listed hB (by simp) hL hr h.length (Nat.le_refl _)
    rw [hn] at this
    cases this
   have hB':=hB
   simp only [lastB,Bool.and_eq_true,List.all_eq_true,List.mem_range] at hB'
   have hlast:=hB'.2
   simp only [List.getElem?_toArray,List.getElem?_concat_length,Bool.and_eq_true,Option.isNone_iff_eq_none] at hlast
   obtain⟨hg,hd⟩:=hlast
   refine⟨fun hr=>absurd hr hno,fun i hi=>?_⟩
   have h2:=hh.2 i (by rw [nop_ready];exact hi)
   by_cases e:i=h.length
   ·subst e
    have hdep:∀j,j<h.length→L.getD j false=true:=fun j hj=>by
     have h3:=hB'.1.1 j hj
     simp only [List.getElem?_toArray,List.getElem?_concat_length] at h3
     obtain⟨e,he,hb⟩:=Array.any_eq_true'.1 h3
     simp only [Bool.and_eq_true,beq_iff_eq] at hb
     obtain⟨_,o',ho',hall⟩:=mem_ready.1 hi
     simp only [List.getElem?_toArray,List.getElem?_concat_length,Option.some.injEq] at ho'
     subst ho'
     have:=hall e he hb.1
     rwa [hb.2] at this
    have hrs:Region.ready md (h++[o]).toArray (L.setIfInBounds h.length true)=[]:=by
     refine List.eq_nil_iff_forall_not_mem.2 fun j hj=>?_
     obtain⟨hj1,o',ho',_⟩:=mem_ready.1 hj
     have hjs:j<h.length+1:=by
      have:=(Array.getElem?_eq_some_iff.1 ho').1
      simpa using this
     by_cases ej:h.length=j
     ·subst ej
      simp [hL] at hj1
     ·rw [getD_set_ne true ej] at hj1
      have:=hdep j (by omega)
      have hjl:j<L.size:=by omega
      simp [hjl] at hj1 this
      rw [hj1] at this
      cases this
    unfold wpOp at h2
    rw [nop_get,if_pos rfl] at h2
    have hwn:∀y,Region.wanted (nop o) y=true:=fun y=>by
     unfold Region.wanted nop
     rw [hg]
    dsimp only at h2
    rw [if_pos (hwn _)] at h2
    have h3:wpAny P md (h++[nop o]).toArray (Exit.then (fun a w=>wpList P (h++[o]).toArray Q [o] a w) Q) fuel (L.setIfInBounds h.length true) a w:=by
     rcases h2 with h2 | h2
     ·exact h2
     ·exact absurd h2.1 (nop_asks o a w)
    have h4:wpList P (h++[o]).toArray Q [o] a w:=by
     have hr2:=hrs
     rw [←nop_ready] at hr2
     cases fuel with
     | zero=>exact h3.2
     | succ fuel=>exact h3.1 hr2
    have hdone:∀a w,Q .normal a w→wpAny P md (h++[o]).toArray Q fuel (L.setIfInBounds h.length true) a w:=fun a w hq=>by
     cases fuel with
     | zero=>exact⟨hrs,hq⟩
     | succ fuel=>exact⟨fun _=>hq,fun i hi=>by rw [hrs] at hi;cases hi⟩
    unfold wpOp
    simp only [List.getElem?_toArray,List.getElem?_concat_length]
    unfold wpList at h4
    split at h4
    ·rename_i hw
     rw [if_pos hw]
     exact h4.imp (Oper.wp_mono (fun a w hq=>hdone a w hq)) id
    ·rename_i hw
     rw [if_neg hw]
     exact hdone _ _ h4
   ·have hget:(h++[nop o]).toArray[i]? = (h++[o]).toArray[i]?:=by rw [nop_get,if_neg e]
    unfold wpOp at h2 ⊢
    rw [hget] at h2
    have hnext:∀a w,wpAny P md (h++[nop o]).toArray (Exit.then (fun a w=>wpList P (h++[o]).toArray Q [o] a w) Q) fuel (L.setIfInBounds i true) a w→wpAny P md (h++[o]).toArray Q fuel (L.setIfInBounds i true) a w:=fun a w hk =>
     nop_any h o hB fuel _ a w (by simp [hL]) (by rw [getD_set_ne true e];exact hn) hk
    split
    ·rename_i ho;rw [ho] at h2;exact hnext _ _ h2
    ·rename_i p ho
     rw [ho] at h2
     dsimp only at h2
     rw [nop_yielded h o hd] at h2
     split
     ·rename_i hw
      rw [if_pos hw] at h2
      rcases h2 with h2 | h2
      ·exact .inl (Oper.wp_mono hnext (oper_wp_then h2))
      ·exact .inr h2
     ·rename_i hw
      rw [if_neg hw] at h2
      exact hnext _ _ h2
def noDefer (l:List Oper):Bool:=l.all fun o=>match o.op with | .defer _=>false | _=>true
theorem noDefer_spec {l:List Oper} (h:noDefer l=true) (i:Nat) (o:Oper) (ho:l.toArray[i]? = some o):∀c,o.op≠.defer c:=by
 intro c hc
 have:=List.all_eq_true.1 h o (List.mem_of_getElem? (by simpa using ho))
 rw [hc] at this
 cases this
theorem wp_region_seg {id:Nat} {a:Act} {w:World} {l:List Oper} (S:World→Prop) (ns:List Nat) (hm:P.follows .mixedOrders=true) (hB:(Region.noSelect l.toArray&&segB .any l.toArray ns l.length 0 (Array.replicate l.length false))=true)
 (hS:S w.drew) (h:segH P l.toArray S (NoPanic Q) ns l a w.drew):(Code.region id l.toArray true).wp P Q a w:=by
 rw [Bool.and_eq_true] at hB
 refine wp_region_noPanic (wp_region_any hm (wpAny_of_held _ _ _ _ (?_:wpAnyH P .any l.toArray (NoPanic Q) S _ _ a w.drew)))
 have:=seg_walk (md:=.any) hB.1 (fun _ _ _ _ h=>h) ns l 0 _ a w.drew (fun j=>by simp) hB.2 hS h
 simpa using this
theorem wpIn_region_seg {id n r:Nat} {a:Act} {w:World} {l:List Oper} (S:World→Prop) (ns:List Nat) (hm:P.follows .mixedOrders=true) (hB:(noDefer l&&(Region.noSelect l.toArray&&segB .any l.toArray ns l.length 0 (Array.replicate l.length false)))=true)
 (hQ:∀c a a' w,Q (.panic c) a w→Q (.panic c) a' w) (hO:∀a w,¬ Q .outgrown a w) (hS:S w.drew) (h:segH P l.toArray S Q ns l a w.drew):(Code.region id l.toArray true).wpIn (Fence.wide.inRound r) n P Q a w:=by
 rw [Bool.and_eq_true,Bool.and_eq_true] at hB
 refine wpIn_region_any hm (any_round (noDefer_spec hB.1) hO _ _ _ _ (wpAny_of_held _ _ _ _ (?_:wpAnyH P .any l.toArray Q S _ _ a w.drew)))
 have:=seg_walk (md:=.any) hB.2.1 hQ ns l 0 _ a w.drew (fun j=>by simp) hB.2.2 hS h
 simpa using this
theorem wp_region_segl {id:Nat} {a:Act} {w:World} {l:List Oper} (S:World→Prop) (ns:List Nat) (hm:P.follows .mixedOrders=true)
 (hB:(decide (0<l.length)&&lastB .any l.toArray (l.length-1)&&(Region.noSelect (nopLast l).toArray&&segB .any (nopLast l).toArray ns l.length 0 (Array.replicate l.length false)))=true)
 (hS:S w.drew) (h:segH P (nopLast l).toArray S (Exit.then (fun a w=>wpList P l.toArray (NoPanic Q) (lastOf l) a w) (NoPanic Q)) ns (nopLast l) a w.drew):(Code.region id l.toArray true).wp P Q a w:=by
 simp only [Bool.and_eq_true,decide_eq_true_eq] at hB
 obtain⟨⟨h0,hB1⟩,hB2,hB3⟩:=hB
 obtain⟨hd,o,e1,e2,e3⟩:=last_split l (by intro hl;rw [hl] at h0;cases h0)
 rw [e2,e3] at h
 rw [e2] at hB2 hB3
 subst e1
 have hl1:(hd++[o]).length-1=hd.length:=by simp
 rw [hl1] at hB1
 refine wp_region_noPanic (wp_region_any hm (?_:wpAny P .any (hd++[o]).toArray (NoPanic Q) _ _ a w.drew))
 refine nop_any hd o hB1 _ _ a _ (by simp) (by simp) (wpAny_of_held (S:=S) _ _ _ _ ?_)
 have:=seg_walk (md:=.any) hB2 (fun _ _ _ _ h=>h) ns (hd++[nop o]) 0 _ a w.drew (fun j=>by simp) (by simpa using hB3) hS h
 simpa using this
theorem wpIn_region_quiet_r {id n r:Nat} {a:Act} {w:World} {l:List Oper} (hm:P.follows .mixedOrders=true) (hB:(noDefer l&&Region.lexB .any l.toArray)=true) (hO:∀a w,¬ Q .outgrown a w)
 (h:wpQuiet P l.toArray (fun w'=>∃n,w'=w.drewN n) (fun a'=>∀w',(∃n,w'=w.drewN n)→Q .normal a' w') l a):(Code.region id l.toArray true).wpIn (Fence.wide.inRound r) n P Q a w:=by
 rw [Bool.and_eq_true] at hB
 refine wpIn_region_any hm (any_round (noDefer_spec hB.1) hO _ _ _ _ (wpAny_of_quiet (C:=fun w'=>∃n,w'=w.drewN n) (Q:=fun a'=>∀w',(∃n,w'=w.drewN n)→Q .normal a' w') (fun _ w' hw' h=>h w' hw') _ _ _ _ ⟨1,rfl⟩ ?_))
 have h2:=hB.2
 simp only [Region.lexB,Bool.and_eq_true] at h2
 have:=wpAnyQ_lex (C:=fun w'=>∃n,w'=w.drewN n) (md:=.any) h2.1 l 0 (Array.replicate l.length false) a (by simp) (by simpa using h2.2) h
 simpa using this
end
end
end Go.Proofs.YtlbclfmbejjneaaGreatDoor
