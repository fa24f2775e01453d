/- Part 31 (merged by a program): lemmas of no further condition than each states. -/
import Derived.Test.YtlmjbfncopbilaaGreatDoorK25
import Derived.Test.YtlmjbfncopbilaaGreatDoorK30
namespace Go.Proofs.YtlmjbfncopbilaaGreatDoor
set_option linter.unusedVariables false
set_option linter.unusedSimpArgs false
section
open Go.RowKit Go.Proofs
variable {P:Program} {ops:Array Oper} {Q:Exit→Act→World→Prop} {md:Region.Mode}
def waitsB (md:Region.Mode) (ops:Array Oper) (o:Oper) (i:Nat):Bool :=
 o.after.any fun e=>Region.binds md e&&(e.on==i||match ops[e.on]? with
  | some p=>p.after.any fun e2=>Region.binds md e2&&e2.on==i
  | none=>false)
def lastB2 (md:Region.Mode) (ops:Array Oper) (n:Nat):Bool :=
 ((List.range n).all fun i=>match ops[n]? with
   | some o=>waitsB md ops o i
   | none=>false) &&
 ((List.range (n+1)).all fun i=>match ops[i]? with
   | some o=>o.after.all fun e=>!Region.binds md e||decide (e.on<i)
   | none=>false) &&
 match ops[n]? with
  | some o=>o.guard.isNone&&o.dst.isNone
  | none=>false
def closedL (md:Region.Mode) (ops:Array Oper) (L:Array Bool):Prop:=∀i,L.getD i false=true→∀o,ops[i]? = some o→∀e∈o.after,Region.binds md e=true→L.getD e.on false=true
theorem getD_lt {L:Array Bool} {i:Nat} (h:L.getD i false=true):i<L.size:=by
 by_cases e:i<L.size
 ·exact e
 ·simp [e] at h
theorem closed_set {L:Array Bool} (h:closedL md ops L) {i:Nat} (hi:i∈Region.ready md ops L):closedL md ops (L.setIfInBounds i true):=fun j hj o ho e he hb=>by
 have up:∀k,L.getD k false=true→(L.setIfInBounds i true).getD k false=true:=fun k hk=>by
  have hl:=getD_lt hk
  by_cases e:i=k
  ·subst e;simp [hl]
  ·rw [getD_set_ne false e];exact hk
 by_cases e':i=j
 ·subst e'
  obtain⟨_,o',ho',hall⟩:=mem_ready.1 hi
  rw [ho] at ho'
  cases ho'
  exact up _ (hall e he hb)
 ·rw [getD_set_ne false e'] at hj
  exact up _ (h j hj o ho e he hb)
theorem all_listed2 {n:Nat} {L:Array Bool} (hB:((List.range (n+1)).all fun i=>match ops[i]? with
 | some o=>o.after.all fun e=>!Region.binds md e||decide (e.on<i)
 | none=>false)=true) (hs:ops.size=n+1) (hL:L.size=n+1) (hr:Region.ready md ops L=[]):∀i,i≤n→L.getD i true=true:=by
 intro i
 induction i using Nat.strongRecOn with
 | _ i ih =>
   intro hi
   by_cases hl:L.getD i true=true
   ·exact hl
   ·exfalso
    have hl':L.getD i true=false:=by simpa using hl
    simp only [List.all_eq_true,List.mem_range] at hB
    have h2:=hB i (by omega)
    have hio:i<ops.size:=by omega
    rw [Array.getElem?_eq_getElem hio] at h2
    have hm:i∈Region.ready md ops L:=mem_ready.2 ⟨hl',ops[i],Array.getElem?_eq_getElem hio,fun e he hb=>by
     have h3:=Array.all_eq_true'.1 h2 e he
     rw [hb] at h3
     have h4:e.on<i:=by simpa using h3
     have h5:=ih e.on h4 (by omega)
     have:e.on<L.size:=by omega
     simp [this] at h5 ⊢
     exact h5⟩
    rw [hr] at hm
    cases hm
theorem nop_any2 (h:List Oper) (o:Oper) (hB:lastB2 md (h++[o]).toArray h.length=true):∀(fuel:Nat) (L:Array Bool) (a:Act) (w:World),L.size=h.length+1→L.getD h.length true=false→closedL md (h++[o]).toArray L →
 wpAny P md (h++[nop o]).toArray (Exit.then (fun a w=>wpList P (h++[o]).toArray Q [o] a w) Q) fuel L a w→wpAny P md (h++[o]).toArray Q fuel L a w
 | 0,L,a,w,hL,hn,hc,hh=>by
   have hr:=hh.1
   rw [nop_ready] at hr
   simp only [lastB2,Bool.and_eq_true] at hB
   have:=all_listed2 hB.1.2 (by simp) hL hr h.length (Nat.le_refl _)
   rw [hn] at this
   cases this
 | fuel+1,L,a,w,hL,hn,hc,hh=>by
   have hB0:=hB
   simp only [lastB2,Bool.and_eq_true] at hB0
   have hno:Region.ready md (h++[o]).toArray L≠[]:=fun hr=>by
    have:=all_listed2 hB0.1.2 (by simp) hL hr h.length (Nat.le_refl _)
    rw [hn] at this
    cases this
   have hB':=hB
   simp only [lastB2,Bool.and_eq_true,List.all_eq_true,List.mem_range] at hB'
   have hlast:=hB'.2
   simp only [List.getElem?_toArray,List.getElem?_concat_length,Bool.and_eq_true,Option.isNone_iff_eq_none] at hlast
   obtain⟨hg,hd⟩:=hlast
   refine⟨fun hr=>absurd hr hno,fun i hi=>?_⟩
   have h2:=hh.2 i (by rw [nop_ready];exact hi)
   by_cases e:i=h.length
   ·subst e
    have hdep:∀j,j<h.length→L.getD j false=true:=fun j hj=>by
     have h3:=hB'.1.1 j hj
     simp only [List.getElem?_toArray,List.getElem?_concat_length] at h3
     obtain⟨e,he,hb⟩:=Array.any_eq_true'.1 h3
     simp only [Bool.and_eq_true,Bool.or_eq_true,beq_iff_eq] at hb
     obtain⟨_,o',ho',hall⟩:=mem_ready.1 hi
     simp only [List.getElem?_toArray,List.getElem?_concat_length,Option.some.injEq] at ho'
     subst ho'
     have h5:=hall e he hb.1
     rcases hb.2 with hb2 | hb2
     ·rwa [hb2] at h5
     ·cases hp:(h++[o]).toArray[e.on]? with
      | none=>rw [hp] at hb2;cases hb2
      | some p =>
        have hp':=hp
        rw [hp] at hb2
        obtain⟨e2,he2,hb3⟩:=Array.any_eq_true'.1 hb2
        simp only [Bool.and_eq_true,beq_iff_eq] at hb3
        have:=hc e.on h5 p hp' e2 he2 hb3.1
        rwa [hb3.2] at this
    have hrs:Region.ready md (h++[o]).toArray (L.setIfInBounds h.length true)=[]:=by
     refine List.eq_nil_iff_forall_not_mem.2 fun j hj=>?_
     obtain⟨hj1,o',ho',_⟩:=mem_ready.1 hj
     have hjs:j<h.length+1:=by
      have:=(Array.getElem?_eq_some_iff.1 ho').1
      simpa using this
     by_cases ej:h.length=j
     ·subst ej
      simp [hL] at hj1
     ·rw [getD_set_ne true ej] at hj1
      have:=hdep j (by omega)
      have hjl:j<L.size:=by omega
      simp [hjl] at hj1 this
      rw [hj1] at this
      cases this
    unfold wpOp at h2
    rw [nop_get,if_pos rfl] at h2
    have hwn:∀y,Region.wanted (nop o) y=true:=fun y=>by
     unfold Region.wanted nop
     rw [hg]
    dsimp only at h2
    rw [if_pos (hwn _)] at h2
    have h3:wpAny P md (h++[nop o]).toArray (Exit.then (fun a w=>wpList P (h++[o]).toArray Q [o] a w) Q) fuel (L.setIfInBounds h.length true) a w:=by
     rcases h2 with h2 | h2
     ·exact h2
     ·exact absurd h2.1 (nop_asks o a w)
    have h4:wpList P (h++[o]).toArray Q [o] a w:=by
     have hr2:=hrs
     rw [←nop_ready] at hr2
     cases fuel with
     | zero=>exact h3.2
     | succ fuel=>exact h3.1 hr2
    have hdone:∀a w,Q .normal a w→wpAny P md (h++[o]).toArray Q fuel (L.setIfInBounds h.length true) a w:=fun a w hq=>by
     cases fuel with
     | zero=>exact⟨hrs,hq⟩
     | succ fuel=>exact⟨fun _=>hq,fun i hi=>by rw [hrs] at hi;cases hi⟩
    unfold wpOp
    simp only [List.getElem?_toArray,List.getElem?_concat_length]
    unfold wpList at h4
    split at h4
    ·rename_i hw
     rw [if_pos hw]
     exact h4.imp (Oper.wp_mono (fun a w hq=>hdone a w hq)) id
    ·rename_i hw
     rw [if_neg hw]
     exact hdone _ _ h4
   ·have hget:(h++[nop o]).toArray[i]? = (h++[o]).toArray[i]?:=by rw [nop_get,if_neg e]
    unfold wpOp at h2 ⊢
    rw [hget] at h2
    have hnext:∀a w,wpAny P md (h++[nop o]).toArray (Exit.then (fun a w=>wpList P (h++[o]).toArray Q [o] a w) Q) fuel (L.setIfInBounds i true) a w→wpAny P md (h++[o]).toArray Q fuel (L.setIfInBounds i true) a w:=fun a w hk =>
     nop_any2 h o hB fuel _ a w (by simp [hL]) (by rw [getD_set_ne true e];exact hn) (closed_set hc hi) hk
    split
    ·rename_i ho;rw [ho] at h2;exact hnext _ _ h2
    ·rename_i p ho
     rw [ho] at h2
     dsimp only at h2
     rw [nop_yielded h o hd] at h2
     split
     ·rename_i hw
      rw [if_pos hw] at h2
      rcases h2 with h2 | h2
      ·exact .inl (Oper.wp_mono hnext (oper_wp_then h2))
      ·exact .inr h2
     ·rename_i hw
      rw [if_neg hw] at h2
      exact hnext _ _ h2
theorem closed_start (n:Nat):closedL md ops (Array.replicate n false):=fun i hi=>by
 have hl:=getD_lt hi
 simp at hl
 simp [hl] at hi
theorem wpIn_region_segl {id n r:Nat} {a:Act} {w:World} {l:List Oper} (S:World→Prop) (ns:List Nat) (hm:P.follows .mixedOrders=true)
 (hB:(noDefer l&&(decide (0<l.length)&&lastB2 .any l.toArray (l.length-1)&&(Region.noSelect (nopLast l).toArray&&segB .any (nopLast l).toArray ns l.length 0 (Array.replicate l.length false))))=true)
 (hQ:∀c a a' w,Q (.panic c) a w→Q (.panic c) a' w) (hO:∀a w,¬ Q .outgrown a w)
 (hS:S w.drew) (h:segH P (nopLast l).toArray S (Exit.then (fun a w=>wpList P l.toArray Q (lastOf l) a w) Q) ns (nopLast l) a w.drew):(Code.region id l.toArray true).wpIn (Fence.wide.inRound r) n P Q a w:=by
 rw [Bool.and_eq_true] at hB
 obtain⟨hD,hB⟩:=hB
 simp only [Bool.and_eq_true,decide_eq_true_eq] at hB
 obtain⟨⟨h0,hB1⟩,hB2,hB3⟩:=hB
 obtain⟨hd,o,e1,e2,e3⟩:=last_split l (by intro hl;rw [hl] at h0;cases h0)
 rw [e2,e3] at h
 rw [e2] at hB2 hB3
 subst e1
 have hl1:(hd++[o]).length-1=hd.length:=by simp
 rw [hl1] at hB1
 refine wpIn_region_any hm (any_round (noDefer_spec hD) hO _ _ _ _ (?_:wpAny P .any (hd++[o]).toArray Q _ _ a w.drew))
 refine nop_any2 hd o hB1 _ _ a _ (by simp) (by simp) (closed_start _) (wpAny_of_held (S:=S) _ _ _ _ ?_)
 have:=seg_walk (md:=.any) (Q:=Exit.then (fun a w=>wpList P (hd++[o]).toArray Q [o] a w) Q) hB2 (fun c a a' w h=>hQ c a a' w h) ns (hd++[nop o]) 0 _ a w.drew (fun j=>by simp) (by simpa using hB3) hS h
 simpa using this
end
section
open Go.RowKit Go.Proofs Go.Shelf
attribute [local go_sem] Oper.semAt_some
theorem rup_any (s:ByteArray) (hs:s.size≤2097152) (x:Nat) (w:World) (hT:T8 w) :
 Calls Tryz.prog 125 #[.string s,.int .i64 x] w fun e w'=>e=.returned (.int .i64 (upB s x))∧Below w.heap.size w w':=by
 have hA:=cAt_any s hs (x:Int) w hT
 have hU:upB s x=if (clAt s (x:Int)).1=x then x else (clAt s (x:Int)).2:=rfl
 obtain⟨q,hq⟩:∃q,clAt s (x:Int)=q:=⟨_,rfl⟩
 rw [hq] at hA hU
 obtain⟨f,t⟩:=q
 dsimp only at hA hU
 rw [hU]
 have HA:=lh hA
 clear hA hU hq hT
 go_enter Tryz.func125,Tryz.ntmps125
 by_cases h:f=x
 ·rw [if_pos h]
  subst h
  go_wp2_with (go_at_call 99;refine HA.out.mono ?_;rintro e w1 ⟨rfl,hb⟩)
  go_ret
  exact⟨rfl,hb⟩
 ·rw [if_neg h]
  have hn:((f:Int)==(x:Int))=false:=by rw [beq_eq_false_iff_ne];omega
  clear h
  go_wp2_with (go_at_call 99;refine HA.out.mono ?_;rintro e w1 ⟨rfl,hb⟩)
  go_ret
  exact⟨rfl,hb⟩
theorem conv_str3 (d:ByteArray) (hz:d.size≤2097152) :
 ∃(C:World→Nat) (F:World→World),(∀w,(convert 9 137 (.string d)).run Tryz.prog w=.ok (.slice (some ⟨w.heap.size,0,none⟩) (runesI d).length (C w)) (F w))∧∀w,Below w.heap.size w (F w):=by
 obtain⟨C,F,h1,h2⟩:=conv_str d (by omega)
 exact⟨C,F,h1,fun w=>(h2 w).1⟩
theorem sCount_any (s:ByteArray) (hs:s.size≤2097152) (w:World) :
 Calls Tryz.prog 126 #[.string s] w fun e w'=>e=.returned (.int .i64 (runesI s).length)∧Below w.heap.size w w':=by
 obtain⟨C,F,hcv,hF⟩:=conv_str3 s hs
 go_enter Tryz.func126,Tryz.ntmps126
 go_wp2_with (fail)
 go_ret
 exact⟨rfl,hF w⟩
def pcE:Enc Pc:=⟨fun p=>[.int .i64 p.a,.int .i64 p.size,.int .i64 p.c0,.int .i64 p.c1,.int .u8 p.level,.string p.became,.string p.shown,.int .i64 p.wide,.int .i64 p.e0,.int .i64 p.e1],10,fun _=>rfl⟩
def LdB (W:World) (b:Nat) (lv sv:Value) (fr tt base:Nat) (wide:Int):Prop :=
 W.heap[b]? = some (.cells #[lv,sv,.int .i64 fr,.int .i64 tt,.int .u8 base,.int .i64 wide] 95 (0,0))
section
variable {W W':World} {b:Nat} {lv sv:Value} {fr tt base:Nat} {wide:Int}
theorem LdB.lt (h:LdB W b lv sv fr tt base wide):b<W.heap.size:=(Array.getElem?_eq_some_iff.1 h).1
theorem LdB.below (h:LdB W b lv sv fr tt base wide) {B:Nat} (hb:Below B W W') (hB:b<B):LdB W' b lv sv fr tt base wide:=(hb.block b hB).trans h
theorem LdB.cells (h:LdB W b lv sv fr tt base wide):W.cell? ⟨b,0,none⟩=some lv∧W.cell? ⟨b,1,none⟩=some sv∧W.cell? ⟨b,2,none⟩=some (.int .i64 fr)∧W.cell? ⟨b,3,none⟩=some (.int .i64 tt)∧W.cell? ⟨b,4,none⟩=some (.int .u8 base)∧W.cell? ⟨b,5,none⟩=some (.int .i64 wide):=by
 unfold LdB at h
 refine⟨?_,?_,?_,?_,?_,?_⟩ <;> simp [World.cell?,h]
theorem LdB.frz (h:LdB W b lv sv fr tt base wide) (i:Nat):W.frozen? ⟨b,i,none⟩=false:=by
 unfold LdB at h
 simp [World.frozen?,h]
theorem LdB.set0 (h:LdB W b lv sv fr tt base wide) (v:Value):LdB (W.setCell ⟨b,0,none⟩ v) b v sv fr tt base wide:=set_at h v
theorem LdB.set1 (h:LdB W b lv sv fr tt base wide) (v:Value):LdB (W.setCell ⟨b,1,none⟩ v) b lv v fr tt base wide:=set_at h v
theorem LdB.set2 (h:LdB W b lv sv fr tt base wide) (x:Nat):LdB (W.setCell ⟨b,2,none⟩ (.int .i64 x)) b lv sv x tt base wide:=set_at h _
theorem LdB.set3 (h:LdB W b lv sv fr tt base wide) (x:Nat):LdB (W.setCell ⟨b,3,none⟩ (.int .i64 x)) b lv sv fr x base wide:=set_at h _
theorem LdB.set4 (h:LdB W b lv sv fr tt base wide) (x:Nat):LdB (W.setCell ⟨b,4,none⟩ (.int .u8 x)) b lv sv fr tt x wide:=set_at h _
theorem LdB.set5 (h:LdB W b lv sv fr tt base wide) (x:Int):LdB (W.setCell ⟨b,5,none⟩ (.int .i64 x)) b lv sv fr tt base x:=set_at h _
theorem LdB.other (h:LdB W b lv sv fr tt base wide) {B i:Nat} {v:Value} (hne:b≠B):LdB (W.setCell ⟨B,i,none⟩ v) b lv sv fr tt base wide:=box_other h hne
end
def inL (fr tt:Nat) (L:List (Nat × ByteArray)):List (Nat × ByteArray):=L.filter (fun p=>decide (fr≤p.1)&&decide (p.1<tt))
theorem inL_snoc (fr tt:Nat) (L:List (Nat × ByteArray)) (p:Nat × ByteArray):inL fr tt (L++[p])=inL fr tt L++if fr≤p.1∧p.1<tt then [p] else []:=by
 unfold inL
 rw [List.filter_append]
 congr 1
 by_cases h:fr≤p.1∧p.1<tt
 ·rw [if_pos h,List.filter_cons_of_pos (by simp [h]),List.filter_nil]
 ·rw [if_neg h,List.filter_cons_of_neg (by simp;omega),List.filter_nil]
def chars (L:List (Nat × ByteArray)):Nat:=((L.map (·.2)).flatMap runesI).length
theorem chars_snoc (L:List (Nat × ByteArray)) (p:Nat × ByteArray):chars (L++[p])=chars L+(runesI p.2).length:=by
 unfold chars
 rw [List.map_append,List.flatMap_append,List.length_append]
 simp
end
end Go.Proofs.YtlmjbfncopbilaaGreatDoor
