/- Part 30 (merged by a program): lemmas of no further condition than each states. -/
import Derived.OrdersHeld
import Derived.OrdersIn
import Derived.Deep.CutRange
import Derived.Laws.ResultCell
import Derived.Test.YtlmjbfncopbilaaGreatDoorK11
namespace Go.Proofs.YtlmjbfncopbilaaGreatDoor
set_option linter.unusedVariables false
set_option linter.unusedSimpArgs false
section
open Go Go.RowKit
def plainB (o:Oper):Bool:=match o.op with
 | .move _ | .assign _ | .pick _ _ _ | .load _ _ | .binOp _ _ _ _ _ | .unOp _ _ _ | .slice _ _ _ _ _ | .fieldAddr _ _ _ | .field _ _ _ | .indexAddr _ _ _ | .index _ _ _ | .extract _ _ | .build _ _=>true
 | .nilCheck _=>true
 | .call c=>match c.callee with
   | .builtin .len=>true
   | _=>false
 | _=>false
theorem v_run {P:Program} {s:Sem Value} {w w':World} {n:Next} (h:(s >>= fun x=>pure (Next.value x)).run P w=.ok n w'):∃u,n=.value u:=by
 rw [Sem.run_bind] at h
 cases hs:s.run P w with
 | ok x w1 =>
   rw [hs,Result.andThen_ok,Sem.run_pure] at h
   cases h
   exact⟨x,rfl⟩
 | halt x w1=>rw [hs] at h;cases h
theorem v_any {P:Program} {α:Type} {x:Sem α} {f:α→Sem Next} (hf:∀a w n w',(f a).run P w=.ok n w'→∃u,n=.value u) {w w':World} {n:Next} (h:(x >>= f).run P w=.ok n w'):∃u,n=.value u:=by
 rw [Sem.run_bind] at h
 cases hs:x.run P w with
 | ok a w1=>rw [hs,Result.andThen_ok] at h;exact hf _ _ _ _ h
 | halt a w1=>rw [hs] at h;cases h
theorem plain_run {P:Program} {o:Oper} {ρ:Operand→Value} {w w':World} {n:Next} (hp:plainB o=true) (h:(execOp ρ o).run P w=.ok n w'):∃u,n=.value u:=by
 unfold plainB at hp
 unfold execOp at h
 cases ho:o.op <;> rw [ho] at hp h <;> first | (cases hp;done) | skip
 all_goals dsimp only at h
 case call c =>
  dsimp only at hp
  cases hc:c.callee with
  | builtin b =>
    rw [hc] at hp
    cases b <;> first | (cases hp;done) | skip
    simp only [resolve,hc,Sem.run_bind,Sem.run_pure,Result.andThen_ok,invoke,builtin] at h
    cases hs:(Builtin.len_ c.argTypes o.type (Array.map ρ c.args)).run P w with
    | ok x w1=>rw [hs,Result.andThen_ok] at h;cases h;exact⟨x,rfl⟩
    | halt x w1=>rw [hs] at h;cases h
  | value x=>rw [hc] at hp;cases hp
  | _=>rw [hc] at hp;cases hp
 case move=>rw [Sem.run_pure] at h;cases h;exact⟨_,rfl⟩
 case assign=>rw [Sem.run_pure] at h;cases h;exact⟨_,rfl⟩
 case nilCheck x =>
  split at h
  any_goals (simp [runtimePanic] at h;done)
  any_goals (rw [Sem.run_pure] at h;cases h;exact⟨_,rfl⟩)
  split at h
  ·simp [runtimePanic] at h
  ·refine v_any (fun b w2 n2 w2' h2=>?_) h
   refine v_any (fun c w3 n3 w3' h3=>?_) h2
   split at h3
   ·refine v_any (fun b w2 n2 w2' h2=>?_) h3
    rw [Sem.run_pure] at h2;cases h2;exact⟨_,rfl⟩
   ·rw [Sem.run_pure] at h3;cases h3;exact⟨_,rfl⟩
  ·rw [Sem.run_pure] at h;cases h;exact⟨_,rfl⟩
 case pick =>
  rw [Sem.run_bind] at h
  cases hs:(asBool _).run P w with
  | ok x w1=>rw [hs,Result.andThen_ok,Sem.run_pure] at h;cases h;exact⟨_,rfl⟩
  | halt x w1=>rw [hs] at h;cases h
 all_goals exact v_run h
section
variable {P:Program} {ops:Array Oper} {Q:Exit→Act→World→Prop} {md:Region.Mode} {S:World→Prop}
structure WIn (S:World→Prop) where
 w:World
 h:S w
def CS (S:World→Prop):World→Prop:=fun w'=>∃p:WIn S,w'=p.w
theorem CS.of {w:World} (h:S w):CS S w:=⟨⟨w,h⟩,rfl⟩
theorem quiet_plain {o:Oper} {a:Act} {v:Value} {w:World} (hp:plainB o=true) (h:o.quietAt P a (CS S) w v):(execOp a.eval o).run P w=.ok (.value v) w:=by
 unfold Oper.quietAt at h
 cases hr:(execOp a.eval o).run P w with
 | halt x w'=>rw [hr] at h;simp only [Oper.quietUpon] at h
 | ok n w' =>
   obtain⟨u,rfl⟩:=plain_run hp hr
   rw [hr] at h
   simp only [Oper.quietUpon] at h
   obtain⟨rfl,rfl⟩:=h
   rfl
def setN:Nat→Nat→Array Bool→Array Bool
 | 0,_,l=>l
 | m+1,k,l=>setN m (k+1) (l.setIfInBounds k true)
def plainAt (ops:Array Oper) (k:Nat):Bool:=match ops[k]? with
 | some o=>plainB o
 | none=>false
def headB (md:Region.Mode) (ops:Array Oper):Nat→Nat→Array Bool→Bool
 | 0,_,_=>true
 | m+1,k,l=>(Region.ready md ops l).contains k&&Region.free md ops l k&&plainAt ops k&&headB md ops m (k+1) (l.setIfInBounds k true)
theorem head_walk (hs:Region.noSelect ops=true) (hQ:∀c a a' w,Q (.panic c) a w→Q (.panic c) a' w) {Lq:Act→Prop} {fuel:Nat} {w:World} (hS:S w) :
 ∀(h:List Oper) (k:Nat) (l:Array Bool) (a:Act),(∀j,j<h.length→h[j]? = ops[k+j]?)→headB md ops h.length k l=true→wpQuiet P ops (CS S) Lq h a →
   (∀a',Lq a'→wpAnyH P md ops Q S fuel (setN h.length k l) a' w)→wpAnyH P md ops Q S (h.length+fuel) l a w
 | [],k,l,a,_,_,hw,hn=>by rw [List.length_nil,Nat.zero_add];exact hn a hw
 | o::h,k,l,a,he,hB,hw,hn=>by
   have h0:ops[k]? = some o:=by have:=he 0 (by simp);simpa using this.symm
   simp only [List.length_cons,headB,Bool.and_eq_true] at hB
   obtain⟨⟨⟨hr,hf⟩,hp⟩,hB'⟩:=hB
   have hpl:plainB o=true:=by unfold plainAt at hp;rw [h0] at hp;exact hp
   have hq:∃v,YieldsIf P ops S o v a∧wpQuiet P ops (CS S) Lq h (a.put o.dst v):=by
    unfold wpQuiet at hw
    split at hw
    ·rename_i hwt
     obtain⟨v,h1,h2⟩:=hw
     exact⟨v,.inl ⟨hwt,fun w' hw'=>quiet_plain hpl (h1 w' (CS.of hw'))⟩,h2⟩
    ·rename_i hwt
     exact⟨undef,.inr ⟨by simpa using hwt,rfl⟩,hw⟩
   obtain⟨v,hy,hw2⟩:=hq
   rw [List.length_cons,show h.length+1+fuel=(h.length+fuel)+1 by omega]
   refine wpAnyH_take h0 hs hf hr (fun c a' w' hh=>hQ c _ _ w' hh) hy hS ?_
   exact head_walk hs hQ hS h (k+1) _ _ (fun j hj=>by have:=he (j+1) (by simp;omega);simpa [Nat.add_assoc,Nat.add_comm 1 j] using this) hB' hw2 hn
theorem oper_wp_then {o:Oper} {a:Act} {w:World} {K K':Act→World→Prop} (h:o.wp P a w K (Exit.then K' Q)):o.wp P a w K Q:=by
 unfold Oper.wp at *
 generalize (execOp a.eval o).run P w=r at *
 cases r with
 | ok n w' =>
   cases n <;> simp only [Oper.upon] at h ⊢ <;>
    first
     | exact h
     | exact Calls.mono h (fun e w'' he=>by cases e <;> first | exact he | skip)
 | halt x w'=>cases x <;> simp only [Oper.upon] at h ⊢ <;> exact h
theorem loud_walk {k:Nat} {o:Oper} {fuel:Nat} {l:Array Bool} {a:Act} {w:World} {Nx:Act→World→Prop} (h0:ops[k]? = some o) (hr:Region.ready md ops l=[k]) (hS:S w)
 (hSu:Region.wanted o (yielded ops a.tmps)=true)
 (h:∀K:Act→World→Prop,(∀a w,S w→Nx a w→K a w)→wpList P ops (Exit.then K Q) [o] a w) (hn:∀a w,S w→Nx a w→wpAnyH P md ops Q S fuel (l.setIfInBounds k true) a w):wpAnyH P md ops Q S (fuel+1) l a w:=by
 refine wpAnyH_all hr (by simp) (fun i hi=>?_)
 obtain rfl:i=k:=by simpa using hi
 have h1:=h (fun a w=>S w∧wpAnyH P md ops Q S fuel (l.setIfInBounds i true) a w) (fun a w h2 h3=>⟨h2,hn a w h2 h3⟩)
 unfold wpOp
 rw [h0]
 dsimp only
 rw [if_pos hSu]
 unfold wpList at h1
 rw [if_pos hSu] at h1
 rcases h1 with h1 | h1
 ·exact .inl (oper_wp_then h1)
 ·exact .inr h1
def segH (P:Program) (ops:Array Oper) (S:World→Prop) (Q:Exit→Act→World→Prop):List Nat→List Oper→Act→World→Prop
 | [],l,a,w=>wpQuiet P ops (fun w'=>∃p:WIn S,w'=p.w) (fun a'=>Q .normal a' w) l a
 | n::ns,l,a,w=>wpQuiet P ops (fun w'=>∃p:WIn S,w'=p.w) (fun a'=>∀K:Act→World→Prop,(∀a w,S w→segH P ops S Q ns (l.drop (n+1)) a w→K a w)→wpList P ops (Exit.then K Q) ((l.drop n).take 1) a' w) (l.take n) a
def loudAt (ops:Array Oper) (k:Nat):Bool:=match ops[k]? with
 | some o=>o.guard.isNone
 | none=>false
def segB (md:Region.Mode) (ops:Array Oper):List Nat→Nat→Nat→Array Bool→Bool
 | [],m,k,l=>headB md ops m k l&&(Region.ready md ops (setN m k l)).isEmpty
 | n::ns,m,k,l=>decide (n<m)&&headB md ops n k l&&decide (Region.ready md ops (setN n k l)=[k+n])&&loudAt ops (k+n)&&segB md ops ns (m-(n+1)) (k+n+1) ((setN n k l).setIfInBounds (k+n) true)
theorem seg_walk (hs:Region.noSelect ops=true) (hQ:∀c a a' w,Q (.panic c) a w→Q (.panic c) a' w) :
 ∀(ns:List Nat) (l:List Oper) (k:Nat) (li:Array Bool) (a:Act) (w:World),(∀j,l[j]? = ops[k+j]?)→segB md ops ns l.length k li=true→S w→segH P ops S Q ns l a w→wpAnyH P md ops Q S l.length li a w
 | [],l,k,li,a,w,he,hB,hS,h=>by
   simp only [segB,Bool.and_eq_true] at hB
   unfold segH at h
   have:=head_walk (fuel:=0) hs hQ hS l k li a (fun j _=>he j) hB.1 h (fun a' ha=>wpAnyH_done (by simpa using hB.2) ha 0)
   simpa using this
 | n::ns,l,k,li,a,w,he,hB,hS,h=>by
   simp only [segB,Bool.and_eq_true,decide_eq_true_eq] at hB
   obtain⟨⟨⟨⟨hn,hB1⟩,hr⟩,hl⟩,hB2⟩:=hB
   unfold segH at h
   have htl:(l.take n).length=n:=by simp;omega
   have hdl:(l.drop (n+1)).length=l.length-(n+1):=by simp
   obtain⟨o,ho⟩:∃o,l[n]? = some o:=⟨_,List.getElem?_eq_getElem hn⟩
   have hok:ops[k+n]? = some o:=by rw [←he n];exact ho
   have hd:(l.drop n).take 1=[o]:=by
    rw [List.drop_eq_getElem_cons hn]
    have:l[n]=o:=by rw [List.getElem?_eq_getElem hn] at ho;exact Option.some.inj ho
    simp [this]
   have hg:∀a':Act,Region.wanted o (yielded ops a'.tmps)=true:=fun a'=>by
    unfold loudAt at hl
    rw [hok] at hl
    unfold Region.wanted
    have:o.guard=none:=by simpa using hl
    rw [this]
   have key:=head_walk (Lq:=fun a'=>∀K:Act→World→Prop,(∀a w,S w→segH P ops S Q ns (l.drop (n+1)) a w→K a w)→wpList P ops (Exit.then K Q) ((l.drop n).take 1) a' w) (fuel:=(l.drop (n+1)).length+1) hs hQ hS (l.take n) k li a
    (fun j hj=>by rw [htl] at hj;rw [List.getElem?_take,if_pos hj];exact he j) (by rw [htl];exact hB1) h (fun a' ha=>by
      rw [htl]
      rw [hd] at ha
      refine loud_walk hok hr hS (hg a') ha (fun a2 w2 hS2 h2=>?_)
      exact seg_walk hs hQ ns (l.drop (n+1)) (k+n+1) _ a2 w2 (fun j=>by rw [List.getElem?_drop,he];congr 1;omega) (by rw [hdl];exact hB2) hS2 h2)
   rw [htl,hdl] at key
   rw [show l.length=n+(l.length-(n+1)+1) by omega]
   exact key
theorem oper_round {o:Oper} {a:Act} {w:World} {K:Act→World→Prop} {n r:Nat} (hd:∀c,o.op≠.defer c) (h:o.wp P a w K Q):o.wpIn (Fence.wide.inRound r) n P a w K Q:=by
 unfold Oper.wpIn
 refine⟨fun _ _=>trivial,?_⟩
 rw [Oper.semAt_eq _ _ _ hd]
 unfold Oper.wp at h
 generalize (execOp a.eval o).run P w=x at *
 cases x with
 | ok m w' =>
   cases m <;> simp only [Oper.upon] at h <;> simp only [Oper.uponIn]
   case value=>exact h
   case skip=>exact h
   case defer=>exact h
   case enter f args =>
    refine⟨(fun hh=>by cases hh),CallsIn.inRound r ((callsIn_wide.2 h).mono fun e w'' he=>?_)⟩
    cases e <;> exact he
   case row row args =>
    exact⟨(fun hh=>by cases hh),fun c cs _=>let ⟨v,w',r,s⟩:=h c cs;⟨v,w',r,stepsIn_wide.2 s⟩⟩
 | halt y w'=>cases y <;> simp only [Oper.upon] at h <;> simp only [Oper.uponIn] <;> exact h
theorem any_round (hd:∀(i:Nat) (o:Oper),ops[i]? = some o→∀c,o.op≠.defer c) (hO:∀a w,¬ Q .outgrown a w) {n r:Nat} :
 ∀(fuel:Nat) (l:Array Bool) (a:Act) (w:World),wpAny P md ops Q fuel l a w→wpAnyIn (Fence.wide.inRound r) n P md ops Q fuel l a w
 | 0,l,a,w,h=>h
 | fuel+1,l,a,w,h=>by
   refine⟨h.1,fun i hi=>?_⟩
   have h2:=h.2 i hi
   unfold wpOp at h2
   unfold wpOpIn
   split
   ·rename_i ho;rw [ho] at h2;exact any_round hd hO fuel _ _ _ h2
   ·rename_i o ho
    rw [ho] at h2
    dsimp only at h2
    split
    ·rename_i hw
     rw [if_pos hw] at h2
     rcases h2 with h2 | ⟨_,a',w',h3⟩
     ·exact oper_round (hd i o ho) (Oper.wp_mono (fun a w hk=>any_round hd hO fuel _ _ _ hk) h2)
     ·exact absurd h3 (hO a' w')
    ·rename_i hw
     rw [if_neg hw] at h2
     exact⟨fun _ _=>trivial,any_round hd hO fuel _ _ _ h2⟩
def nop (o:Oper):Oper:={ o with op:=.move (.const undef),dst:=none }
def nopLast:List Oper→List Oper
 | []=>[]
 | [o]=>[nop o]
 | o::p::l=>o::nopLast (p::l)
def lastOf:List Oper→List Oper
 | []=>[]
 | [o]=>[o]
 | _::p::l=>lastOf (p::l)
theorem last_split:∀(l:List Oper),l≠[]→∃h o,l=h++[o]∧nopLast l=h++[nop o]∧lastOf l=[o]
 | [],h=>absurd rfl h
 | [o],_=>⟨[],o,rfl,rfl,rfl⟩
 | o::p::l,_=>by
   obtain⟨h,q,e1,e2,e3⟩:=last_split (p::l) (by simp)
   exact⟨o::h,q,by rw [List.cons_append,←e1],by rw [nopLast,e2];rfl,by rw [lastOf,e3]⟩
theorem nop_get (h:List Oper) (o:Oper) (i:Nat):(h++[nop o]).toArray[i]? = if i=h.length then some (nop o) else (h++[o]).toArray[i]?:=by
 by_cases e:i=h.length
 ·subst e;simp
 ·rw [if_neg e]
  simp only [List.getElem?_toArray]
  rcases Nat.lt_or_ge i h.length with hl | hl
  ·rw [List.getElem?_append_left hl,List.getElem?_append_left hl]
  ·rw [List.getElem?_eq_none (by simp;omega),List.getElem?_eq_none (by simp;omega)]
theorem nop_ready (h:List Oper) (o:Oper) (L:Array Bool):Region.ready md (h++[nop o]).toArray L=Region.ready md (h++[o]).toArray L:=by
 unfold Region.ready
 rw [show (h++[nop o]).toArray.size=(h++[o]).toArray.size by simp]
 refine List.filter_congr fun i hi=>?_
 rw [nop_get]
 by_cases e:i=h.length
 ·subst e
  rw [if_pos rfl]
  simp only [List.getElem?_toArray,List.getElem?_concat_length]
  rfl
 ·rw [if_neg e]
theorem nop_yielded (h:List Oper) (o:Oper) (ho:o.dst=none) (tmps:Array Value):yielded (h++[nop o]).toArray tmps=yielded (h++[o]).toArray tmps:=by
 funext i
 unfold yielded
 rw [nop_get]
 by_cases e:i=h.length
 ·subst e
  rw [if_pos rfl]
  simp only [List.getElem?_toArray,List.getElem?_concat_length,Option.bind_some,ho]
  rfl
 ·rw [if_neg e]
theorem nop_asks (o:Oper) (a:Act) (w:World):¬ (nop o).asks P a w:=by
 unfold Oper.asks
 intro h
 exact absurd (show noRoomEvent∈(#[]:Array Event) from h.1) (by simp)
def noDefer (l:List Oper):Bool:=l.all fun o=>match o.op with | .defer _=>false | _=>true
theorem noDefer_spec {l:List Oper} (h:noDefer l=true) (i:Nat) (o:Oper) (ho:l.toArray[i]? = some o):∀c,o.op≠.defer c:=by
 intro c hc
 have:=List.all_eq_true.1 h o (List.mem_of_getElem? (by simpa using ho))
 rw [hc] at this
 cases this
theorem wp_region_seg {id:Nat} {a:Act} {w:World} {l:List Oper} (S:World→Prop) (ns:List Nat) (hm:P.follows .mixedOrders=true) (hB:(Region.noSelect l.toArray&&segB .any l.toArray ns l.length 0 (Array.replicate l.length false))=true)
 (hS:S w.drew) (h:segH P l.toArray S (NoPanic Q) ns l a w.drew):(Code.region id l.toArray true).wp P Q a w:=by
 rw [Bool.and_eq_true] at hB
 refine wp_region_noPanic (wp_region_any hm (wpAny_of_held _ _ _ _ (?_:wpAnyH P .any l.toArray (NoPanic Q) S _ _ a w.drew)))
 have:=seg_walk (md:=.any) hB.1 (fun _ _ _ _ h=>h) ns l 0 _ a w.drew (fun j=>by simp) hB.2 hS h
 simpa using this
end
end
section
open Go.RowKit Go.Proofs Go.Shelf
attribute [local go_sem] Oper.semAt_some
theorem own_mono {w:World} {base base' e size n:Nat} {v:Value} {xs:List Value} (h:w.ownsRow base e size v n xs) (hb:base'≤base):w.ownsRow base' e size v n xs :=
 ⟨h.1,h.2.imp id fun ⟨g,cap,cur,h1,h2,h3⟩=>⟨g,cap,cur,h1,Nat.le_trans hb h2,h3⟩⟩
section
variable {W W':World} {m F P:Nat} {line text:ByteArray} {wa:Option Addr} {wc:Nat} {e:Bool} {wd tab:Int} {wideA:Bool} {want:Int} {join raw:Bool}
end
theorem two_alloc (w:World) (o1 o2:Obj):((w.alloc o1).alloc o2).heap[w.heap.size]? = some o1∧((w.alloc o1).alloc o2).heap[w.heap.size+1]? = some o2∧Below w.heap.size w ((w.alloc o1).alloc o2):=by
 refine⟨?_,?_,((Below.refl _ _).alloc (Nat.le_refl _) _).alloc (by simp) _⟩
 ·have h1:=World.alloc_heap_new w o1
  have h2:=((Below.refl (w.alloc o1).heap.size (w.alloc o1)).alloc (Nat.le_refl _) o2).block w.heap.size (by rw [World.size_alloc];omega)
  exact h2.trans h1
 ·have h1:=World.alloc_heap_new (w.alloc o1) o2
  rw [World.size_alloc] at h1
  exact h1
theorem box_kept {A B:World} {b t:Nat} {v:Value} (h:Boxed A b t v) {row:Option Nat} (hg:A.grownBy B row) (hrow:∀k,row=some k→∃o,A.heap[k]? = some o∧o.isCells=false):Boxed B b t v :=
 h.kept hg (fun e=>by
  obtain⟨o,ho,hc⟩:=hrow _ e.symm
  rw [show A.heap[_]? = _ from h] at ho
  cases ho;cases hc)
end
section
open Go.RowKit Go.Proofs Go.Shelf
attribute [local go_sem] Oper.semAt_some
theorem results_cells2 {fn:Func} {p q:Tmp} {ty ty':TypeId} (h:fn.results=#[.cell p ty,.cell q ty']) (tmps:Array Value) (P:Program) (w:World) :
 (results fn tmps).run P w=((asAddr (tmps.getD p undef)).run P w).andThen fun a w₁=>((loadVar ty a).run P w₁).andThen fun v w₂=>((asAddr (tmps.getD q undef)).run P w₂).andThen fun a w₃=>((loadVar ty' a).run P w₃).andThen fun v' w₄=>.ok (.tuple #[v,v']) w₄:=by
 simp only [results,h]
 simp [Sem.run_bind,Result.andThen]
theorem at_results {tmps:Array Value} {W:World} {g h:Nat} {x y:Int} (hp:tmps.getD 4 undef=.pointer (some ⟨g,0,none⟩)) (hq:tmps.getD 5 undef=.pointer (some ⟨h,0,none⟩)) (h1:Boxed W g 3 (.int .i64 x)) (h2:Boxed W h 3 (.int .i64 y)) :
 (results Tryz.f99 tmps).run Tryz.prog W=.ok (.tuple #[.int .i64 x,.int .i64 y]) W:=by
 have hr:Tryz.f99.results=#[.cell 4 3,.cell 5 3]:=rfl
 have l1:(loadVar 3 ⟨g,0,none⟩).run Tryz.prog W=.ok (.int .i64 x) W:=by
  simp [loadVar,run_underlying Tryz.underlying3,isAgg,h1.cell]
 have l2:(loadVar 3 ⟨h,0,none⟩).run Tryz.prog W=.ok (.int .i64 y) W:=by
  simp [loadVar,run_underlying Tryz.underlying3,isAgg,h2.cell]
 rw [results_cells2 hr,hp,hq]
 simp only [asAddr,Sem.run_pure,Result.andThen_ok,l1,l2]
def AtJ (w:World) (X n:Nat) (s:ByteArray) (pre:List (PieceOf s)) (W:World):Prop :=
 Boxed W w.heap.size 3 (.int .i64 X)∧Boxed W (w.heap.size+1) 3 (.int .i64 0)∧Boxed W (w.heap.size+1+1) 3 (.int .i64 0)∧Boxed W n 9 (.string s) ∧
  (∀R,clAtF X (pre.map (·.1)++R) s.size=clAtF X R s.size)∧Below w.heap.size w W
def AtY (w:World) (X:Nat) (s:ByteArray) (c:Code) (pre:List (PieceOf s)) (W:World):Prop :=
 c=.ret∧∃r:Nat × Nat,(∀R,clAtF X (pre.map (·.1)++R) s.size=r)∧Boxed W (w.heap.size+1) 3 (.int .i64 r.1)∧Boxed W (w.heap.size+1+1) 3 (.int .i64 r.2)∧Below w.heap.size w W
theorem alloc3 (w:World) (o1 o2 o3:Obj):(((w.alloc o1).alloc o2).alloc o3).heap[w.heap.size]? = some o1∧(((w.alloc o1).alloc o2).alloc o3).heap[w.heap.size+1]? = some o2∧(((w.alloc o1).alloc o2).alloc o3).heap[w.heap.size+1+1]? = some o3∧Below w.heap.size w (((w.alloc o1).alloc o2).alloc o3):=by
 obtain⟨h1,h2,h3⟩:=two_alloc w o1 o2
 have hs:((w.alloc o1).alloc o2).heap.size=w.heap.size+2:=by rw [World.size_alloc,World.size_alloc]
 have h4:=World.alloc_heap_new ((w.alloc o1).alloc o2) o3
 have h5:=(Below.refl ((w.alloc o1).alloc o2).heap.size ((w.alloc o1).alloc o2)).alloc (Nat.le_refl _) o3
 rw [hs] at h4 h5
 exact⟨(h5.block _ (by omega)).trans h1,(h5.block _ (by omega)).trans h2,h4,h3.trans (h5.mono (by omega))⟩
theorem clAtF_snoc {X n:Nat} {L:List (Nat × ByteArray)} (h:∀R,clAtF X (L++R) n=clAtF X R n) (p:Nat × ByteArray):∀R,clAtF X ((L++[p])++R) n=if X<p.1+p.2.size then (p.1,p.1+p.2.size) else clAtF X R n:=fun R=>by
 rw [List.append_assoc,h,List.singleton_append,clAtF]
set_option maxRecDepth 100000 in
set_option maxHeartbeats 1000000 in
theorem cAt_any (s:ByteArray) (hs:s.size≤2097152) (x:Int) (w:World) (hT:T8 w) :
 Calls Tryz.prog 99 #[.string s,.int .i64 x] w fun e w'=>e=.returned (.tuple #[.int .i64 (clAt s x).1,.int .i64 (clAt s x).2])∧Below w.heap.size w w':=by
 refine (callsIn_wide (n:=4)).1 ?_
 refine callsIn_of_wp_marks Tryz.func99 rfl trivial ?_ rfl
 simp only [Tryz.ntmps99,List.size_toArray,List.length_cons,List.length_nil,Nat.reduceAdd,Nat.reduceSub,Array.replicate_succ,Array.replicate_zero,List.push_toArray,List.append_toArray,List.nil_append,List.cons_append]
 obtain⟨m0,hm0⟩:∃m0,x.toNat=m0:=⟨_,rfl⟩
 obtain⟨X,hX⟩:∃X,min m0 s.size=X:=⟨_,rfl⟩
 have e1:max x 0=(m0:Int):=by omega
 have e2:min (m0:Int) (s.size:Int)=(X:Int):=by omega
 have hcl:clAt s x=clAtF X (piecesI s) s.size:=by unfold clAt;rw [hm0,hX]
 rw [hcl]
 have hXs:X≤s.size:=by omega
 clear hm0 hX hcl
 gi_upto_region 1 with (fail)
 obtain⟨j1,j2,j3,hb0⟩:=alloc3 w (.cells #[.int .i64 x] 3 (0,0)) (.cells #[.int .i64 0] 3 (0,0)) (.cells #[.int .i64 0] 3 (0,0))
 have hs0:(((w.alloc (.cells #[.int .i64 x] 3)).alloc (.cells #[.int .i64 0] 3)).alloc (.cells #[.int .i64 0] 3)).heap.size=w.heap.size+3:=by rw [World.size_alloc,World.size_alloc,World.size_alloc]
 generalize ((w.alloc (.cells #[.int .i64 x] 3)).alloc (.cells #[.int .i64 0] 3)).alloc (.cells #[.int .i64 0] 3)=W0 at j1 j2 j3 hb0 hs0 ⊢
 have k1:Boxed W0 w.heap.size 3 (.int .i64 x):=j1
 have k2:Boxed W0 (w.heap.size+1) 3 (.int .i64 0):=j2
 have k3:Boxed W0 (w.heap.size+1+1) 3 (.int .i64 0):=j3
 clear j1 j2 j3
 have c1:=k1.cell
 have f1:=k1.frozen
 gi_upto_region 2 with (fail)
 have hb1:Below w.heap.size w (W0.setCell ⟨w.heap.size,0,none⟩ (.int .i64 X)):=hb0.setCell (p:=⟨w.heap.size,0,none⟩) (Nat.le_refl _) _
 have q1:Boxed (W0.setCell ⟨w.heap.size,0,none⟩ (.int .i64 X)) w.heap.size 3 (.int .i64 X):=set_at k1 _
 have q2:Boxed (W0.setCell ⟨w.heap.size,0,none⟩ (.int .i64 X)) (w.heap.size+1) 3 (.int .i64 0):=box_other k2 (by omega)
 have q3:Boxed (W0.setCell ⟨w.heap.size,0,none⟩ (.int .i64 X)) (w.heap.size+1+1) 3 (.int .i64 0):=box_other k3 (by omega)
 have hs1:(W0.setCell ⟨w.heap.size,0,none⟩ (.int .i64 X)).heap.size=w.heap.size+3:=by
  have:=(KeepsWalks.setCell W0 ⟨w.heap.size,0,none⟩ (.int .i64 X)).size
  show (W0.heap.modify _ _).size=_
  rw [Array.size_modify,hs0]
 generalize W0.setCell ⟨w.heap.size,0,none⟩ (.int .i64 X)=W1 at hb1 q1 q2 q3 hs1 ⊢
 clear k1 k2 k3 c1 f1 hb0 hs0 W0
 gi_wp2_with (fail)
 refine⟨trivial,?_⟩
 refine (callsIn_wide.2 (pieces_any s _)).mono ?_
 rintro e' W3 ⟨rfl,hW3⟩
 obtain⟨n,hn⟩:∃n,w.heap.size+3=n:=⟨_,rfl⟩
 have hb3:Below W1.heap.size W1 W3:=hW3▸(Below.refl _ _).alloc (Nat.le_refl _) _
 have hbs:Boxed W3 n 9 (.string s):=by rw [←hn,←hs1,hW3];exact World.alloc_heap_new W1 _
 have hs3:W3.heap.size=n+1:=by rw [hW3,World.size_alloc,hs1,hn]
 have r1:Boxed W3 w.heap.size 3 (.int .i64 X):=(hb3.block _ (by omega)).trans q1
 have r2:Boxed W3 (w.heap.size+1) 3 (.int .i64 0):=(hb3.block _ (by omega)).trans q2
 have r3:Boxed W3 (w.heap.size+1+1) 3 (.int .i64 0):=(hb3.block _ (by omega)).trans q3
 have hb03:Below w.heap.size w W3:=hb1.trans (hb3.mono (by omega))
 clear hW3 hb3 q1 q2 q3 hb1
 simp only [hs1,hn]
 have hT3:T8 W3:=hT.below rfl hb03
 have h3:Tryz.lays197_ren.g 3<w.heap.size:=cell_lt (hT.1 0 (by omega))
 have h4:Tryz.lays197_ren.g 4<w.heap.size:=cell_lt (hT.2 0 (by omega)).1
 unfold itV
 gi_wp2_with (fail)
 refine wpIn_rangeFunc_ownF (F:=Fence.wide) rfl (by omega) (gf:=112) (lb:=#[.pointer (some ⟨n,0,none⟩)]) rfl trivial (enters_of Tryz.func112 (by kernel_rfl) rfl)
  (pieces_stops 3 (by omega) n w.heap.size s (by omega) h3 h4 W3 (by omega) hbs.cell hT3) (fun h k=>KpB.trans h k) (kpB_put (w:=W3) (by omega)) (Below.refl _ _) (fun _=>rfl)
  (AtJ w X n s) (AtY w X s) ?hI ?hIx ?h0
  (fun x'=>{ tmps:=#[.string s,.int .i64 x,undef,.pointer (some ⟨w.heap.size,0,none⟩),.pointer (some ⟨w.heap.size+1,0,none⟩),.pointer (some ⟨w.heap.size+1+1,0,none⟩),.int .i64 x'.1.1,.string x'.1.2,.int .i64 x,.int .i64 m0,.string s,.int .i64 s.size,.int .i64 X,.string s,(.func (.func 112) #[] #[.pointer (some ⟨n,0,none⟩)]),.int .i64 x'.1.1,.string x'.1.2,undef,undef,undef,undef,undef,undef,undef,undef,undef,undef,undef,undef,undef,undef,undef],defers:=[] }) ?assign ?body ?done ?stop
 case hI =>
  rintro pre A B row ⟨a1,a2,a3,a4,a5,a6⟩ hg hrow
  have hr:=fun k e=>(hrow k e).2
  exact⟨box_kept a1 hg hr,box_kept a2 hg hr,box_kept a3 hg hr,box_kept a4 hg hr,a5,a6.grown hg (by have:=a6.size;omega) (fun k e=>by have:=(hrow k e).1;omega)⟩
 case hIx =>
  rintro c pre A B row ⟨h0,e,a1,a2,a3,a9⟩ hg hrow
  have hr:=fun k e=>(hrow k e).2
  exact⟨h0,e,a1,box_kept a2 hg hr,box_kept a3 hg hr,a9.grown hg (by have:=a9.size;omega) (fun k e=>by have:=(hrow k e).1;omega)⟩
 case h0=>exact⟨r1,r2,r3,hbs,fun R=>by simp,hb03⟩
 case assign =>
  intro l x' W K hK
  gi_wp2_with (fail)
  exact hK
 case body =>
  rintro l pre x' W ⟨a1,a2,a3,a4,a5,a6⟩ hlt
  obtain⟨at',hat⟩:∃a,x'.1.1=a:=⟨_,rfl⟩
  obtain⟨c,hcc⟩:∃c,x'.1.2=c:=⟨_,rfl⟩
  have hx:=x'.2
  rw [hat,hcc] at hx
  simp only [hat,hcc]
  have hsn:=clAtF_snoc a5 x'.1
  rw [hat,hcc] at hsn
  have hsn2:∀R,clAtF X ((pre++[x']).map (·.1)++R) s.size=if X<at'+c.size then (at',at'+c.size) else clAtF X R s.size:=fun R=>by
   rw [List.map_append,List.map_singleton]
   exact hsn R
  have c1:=a1.cell
  have c2:=a2.cell
  have c3:=a3.cell
  have f2:=a2.frozen
  have f3:=a3.frozen
  have A1:=lh a1
  have A2:=lh a2
  have A3:=lh a3
  have A4:=lh a4
  have A6:=lh a6
  have HSN:=lh hsn2
  have g1:(at':Int)≤2097152:=by omega
  have g2:(c.size:Int)≤2097152:=by omega
  clear a1 a2 a3 a4 a5 a6 hsn hsn2 hat hcc hx hlt r1 r2 r3 hbs hb03 hT3 e1 e2
  by_cases hc:X<at'+c.size
  ·have hd:(X:Int)<(at':Int)+(c.size:Int):=by omega
   have HE:=lh (fun R=>(HSN.out R).trans (if_pos hc))
   clear hc HSN
   gi_wp2_with (fail)
   refine⟨(KeepsOthers.setCell _ _ _).trans (KeepsOthers.setCell _ _ _),?_⟩
   exact⟨rfl,(at',at'+c.size),HE.out,box_other (set_at A2.out _) (by omega),set_at (box_other A3.out (by omega)) _,
    (A6.out.setCell (p:=⟨w.heap.size+1,0,none⟩) (Nat.le_succ _) _).setCell (p:=⟨w.heap.size+1+1,0,none⟩) (Nat.le_trans (Nat.le_succ _) (Nat.le_succ _)) _⟩
  ·have hd:¬ ((X:Int)<(at':Int)+(c.size:Int)):=by omega
   have HE:=lh (fun R=>(HSN.out R).trans (if_neg hc))
   clear hc HSN
   gi_wp2_with (fail)
   refine⟨KeepsOthers.refl _,⟨Below.refl _ _,fun v hv=>hv⟩,A1.out,A2.out,A3.out,A4.out,HE.out,A6.out⟩
 case done =>
  rintro D xs W hD hxs ⟨a1,a2,a3,a4,a5,a6⟩ hK
  have hfin:clAtF X (piecesI s) s.size=(s.size,s.size):=by
   have:=a5 []
   rw [List.append_nil,hxs] at this
   rw [this,clAtF]
  have c2:=a2.cell
  have c3:=a3.cell
  have f2:=a2.frozen
  have f3:=a3.frozen
  have A2:=lh a2
  have A3:=lh a3
  have A6:=lh a6
  have HF:=lh hfin
  clear a1 a2 a3 a4 a5 a6 hfin hxs r1 r2 r3 hbs hb03 hT3 e1 e2
  gi_wp2_with (fail)
  have s2:Boxed ((W.setCell ⟨w.heap.size+1,0,none⟩ (.int .i64 s.size)).setCell ⟨w.heap.size+1+1,0,none⟩ (.int .i64 s.size)) (w.heap.size+1) 3 (.int .i64 s.size):=box_other (set_at A2.out _) (by omega)
  have s3:Boxed ((W.setCell ⟨w.heap.size+1,0,none⟩ (.int .i64 s.size)).setCell ⟨w.heap.size+1+1,0,none⟩ (.int .i64 s.size)) (w.heap.size+1+1) 3 (.int .i64 s.size):=set_at (box_other A3.out (by omega)) _
  have s9:Below w.heap.size w ((W.setCell ⟨w.heap.size+1,0,none⟩ (.int .i64 s.size)).setCell ⟨w.heap.size+1+1,0,none⟩ (.int .i64 s.size)):=(A6.out.setCell (p:=⟨w.heap.size+1,0,none⟩) (Nat.le_succ _) _).setCell (p:=⟨w.heap.size+1+1,0,none⟩) (Nat.le_trans (Nat.le_succ _) (Nat.le_succ _)) _
  have sK:((W.setCell ⟨w.heap.size+1,0,none⟩ (.int .i64 s.size)).setCell ⟨w.heap.size+1+1,0,none⟩ (.int .i64 s.size)).heap[D]? = some (.deferred (some [])):=box_other (box_other hK (by omega)) (by omega)
  generalize (W.setCell ⟨w.heap.size+1,0,none⟩ (.int .i64 s.size)).setCell ⟨w.heap.size+1+1,0,none⟩ (.int .i64 s.size)=W5 at s2 s3 s9 sK ⊢
  refine⟨by simp,.inl ⟨_,_,rfl,run_takeDeferred sK,?_⟩⟩
  refine⟨_,at_results rfl rfl (box_kept s2 (grownBy_putObj' W5 D (.deferred none)) (fun r e=>by cases e;exact⟨_,sK,rfl⟩)) (box_kept s3 (grownBy_putObj' W5 D (.deferred none)) (fun r e=>by cases e;exact⟨_,sK,rfl⟩)),?_,?_⟩
  ·rw [HF.out]
  ·exact s9.trans (belowK_b (w:=w) (Nat.le_refl _) W5 D _ _ (by omega) sK rfl rfl)
 case stop =>
  rintro D c pre W hD hSp ⟨rfl,r,a1,a2,a3,a9⟩ hK
  have hfin:clAtF X (piecesI s) s.size=r:=by
   obtain⟨R,hR⟩:=hSp
   have:=a1 R
   rw [hR] at this
   exact this
  dsimp only
  clear r1 r2 r3 hbs hb03 hT3 e1 e2
  gi_wp2_with (fail)
  refine⟨by simp,.inl ⟨_,_,rfl,run_takeDeferred hK,?_⟩⟩
  refine⟨_,at_results rfl rfl (box_kept a2 (grownBy_putObj' W D (.deferred none)) (fun r e=>by cases e;exact⟨_,hK,rfl⟩)) (box_kept a3 (grownBy_putObj' W D (.deferred none)) (fun r e=>by cases e;exact⟨_,hK,rfl⟩)),?_,?_⟩
  ·rw [hfin]
  ·exact a9.trans (belowK_b (w:=w) (Nat.le_refl _) W D _ _ (by omega) hK rfl rfl)
end
section
open Go.RowKit Go.Proofs Go.Shelf
structure Enc (α:Type) where
 enc:α→List Value
 k:Nat
 len:∀x,(enc x).length=k
variable {α:Type} (E:Enc α)
theorem flatS_len (l:List α):(l.flatMap E.enc).length=l.length*E.k:=by
 induction l with
 | nil=>simp
 | cons x l ih=>rw [List.flatMap_cons,List.length_append,ih,List.length_cons,E.len,Nat.add_mul];omega
theorem flatS_get (l:List α) (i:Nat) (x:α) (h:l[i]? = some x) (j:Nat) (v:Value) (hv:(E.enc x)[j]? = some v):(l.flatMap E.enc)[i*E.k+j]? = some v:=by
 have hj:j<E.k:=by
  have:=(List.getElem?_eq_some_iff.1 hv).1
  rw [E.len] at this
  exact this
 induction l generalizing i with
 | nil=>simp at h
 | cons y l ih =>
   rw [List.flatMap_cons]
   cases i with
   | zero =>
     have:y=x:=by simpa using h
     subst this
     rw [Nat.zero_mul,Nat.zero_add,List.getElem?_append_left (by rw [E.len];exact hj)]
     exact hv
   | succ i =>
     have e1:(i+1)*E.k+j-(E.enc y).length=i*E.k+j:=by rw [E.len,Nat.add_mul];omega
     rw [List.getElem?_append_right (by rw [E.len,Nat.add_mul];omega),e1]
     exact ih i (by simpa using h)
theorem flatS_set (l:List α) (i:Nat) (x y:α) (h:l[i]? = some x) (j:Nat) (v:Value) (hj:j<E.k) (hy:E.enc y=(E.enc x).set j v):(l.set i y).flatMap E.enc=(l.flatMap E.enc).set (i*E.k+j) v:=by
 induction l generalizing i with
 | nil=>simp at h
 | cons z l ih =>
   cases i with
   | zero =>
     have:z=x:=by simpa using h
     subst this
     rw [List.set_cons_zero,List.flatMap_cons,List.flatMap_cons,Nat.zero_mul,Nat.zero_add,List.set_append_left _ _ (by rw [E.len];exact hj),hy]
   | succ i =>
     have e1:(i+1)*E.k+j-(E.enc z).length=i*E.k+j:=by rw [E.len,Nat.add_mul];omega
     rw [List.set_cons_succ,List.flatMap_cons,List.flatMap_cons,List.set_append_right _ _ (by rw [E.len,Nat.add_mul];omega),e1,ih i (by simpa using h)]
theorem flatS_snoc (l:List α) (x:α):(l++[x]).flatMap E.enc=l.flatMap E.enc++E.enc x:=by
 rw [List.flatMap_append,List.flatMap_singleton]
def OwnS (e:Nat) (W:World) (base:Nat) (v:Value) (l:List α):Prop:=W.ownsRow base e E.k v l.length (l.flatMap E.enc)
variable {E}
theorem OwnS.nil (e:Nat) (W:World) (base:Nat):OwnS E e W base (.slice none 0 0) []:=⟨by simp,.inl ⟨rfl,rfl⟩⟩
theorem OwnS.keep {e:Nat} {W W':World} {base:Nat} {v:Value} {l:List α} (h:OwnS E e W base v l) (hb:Below W.heap.size W W'):OwnS E e W' base v l:=ownsRow_keep h hb
theorem OwnS.low {e:Nat} {W:World} {base base':Nat} {v:Value} {l:List α} (h:OwnS E e W base v l) (hb:base'≤base):OwnS E e W base' v l:=ownsRow_base h hb
theorem OwnS.slice {e:Nat} {W:World} {base:Nat} {v:Value} {l:List α} (h:OwnS E e W base v l):∃a cap,v=.slice a l.length cap∧l.length≤cap∧cap≤maxLen:=own_slice h
theorem OwnS.other {e:Nat} {W:World} {base B i:Nat} {v u:Value} {l:List α} (h:OwnS E e W base v l) (hne:∀g,v.ownBlock=some g→g≠B):OwnS E e (W.setCell ⟨B,i,none⟩ u) base v l:=row_other h hne
theorem OwnS.at {e:Nat} {W:World} {base cap:Nat} {a:Option Addr} {l:List α} (h:OwnS E e W base (.slice a l.length cap) l) (i:Nat) (x:α) (hx:l[i]? = some x) :
 ∃G,a=some ⟨G,0,none⟩∧base≤G∧G<W.heap.size∧(∀j u,(E.enc x)[j]? = some u→W.cell? ⟨G,i*E.k+j,none⟩=some u)∧∀j,W.frozen? ⟨G,j,none⟩=false:=by
 have hil:=(List.getElem?_eq_some_iff.1 hx).1
 obtain⟨G,h1,h2,h3,h4⟩:=own_cells h (by omega)
 refine⟨G,h1,h2,h3,fun j u hu=>?_,fun j=>?_⟩
 ·have hj:j<E.k:=by
   have:=(List.getElem?_eq_some_iff.1 hu).1
   rw [E.len] at this
   exact this
  have hle:(i+1)*E.k≤l.length*E.k:=Nat.mul_le_mul_right _ (by omega)
  rw [Nat.add_mul] at hle
  rw [h4 _ (by omega)]
  exact flatS_get E l i x hx j u hu
 ·rcases h.2 with ⟨h1',h0⟩ | ⟨g,cap',cur,h1',hb,hg,_⟩
  ·omega
  ·rw [h1] at h1'
   simp only [Value.slice.injEq,Option.some.injEq,Addr.mk.injEq] at h1'
   obtain⟨⟨rfl,_⟩,_⟩:=h1'
   simp [World.frozen?,hg]
theorem OwnS.set {e:Nat} {W:World} {base cap G:Nat} {l:List α} (h:OwnS E e W base (.slice (some ⟨G,0,none⟩) l.length cap) l) (i:Nat) (x y:α) (hx:l[i]? = some x) (j:Nat) (v:Value) (hj:j<E.k) (hy:E.enc y=(E.enc x).set j v) :
 OwnS E e (W.setCell ⟨G,i*E.k+j,none⟩ v) base (.slice (some ⟨G,0,none⟩) (l.set i y).length cap) (l.set i y):=by
 unfold OwnS
 rw [List.length_set,flatS_set E l i x y hx j v hj hy]
 exact (World.ownsRow.stored h (i*E.k+j) v).1
end
end Go.Proofs.YtlmjbfncopbilaaGreatDoor
