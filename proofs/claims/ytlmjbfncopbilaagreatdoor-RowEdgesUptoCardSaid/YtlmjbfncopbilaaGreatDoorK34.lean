/- Part 34 (merged by a program): lemmas of no further condition than each states. -/
import Derived.Test.YtlmjbfncopbilaaGreatDoorK31
namespace Go.Proofs.YtlmjbfncopbilaaGreatDoor
set_option linter.unusedVariables false
set_option linter.unusedSimpArgs false
section
open Go.RowKit Go.Proofs
section
variable {P:Program} {ops:Array Oper} {Q:Exit→Act→World→Prop} {md:Region.Mode} {S:World→Prop}
def setL:List Nat→Array Bool→Array Bool
 | [],l=>l
 | k::ks,l=>setL ks (l.setIfInBounds k true)
def headP (md:Region.Mode) (ops:Array Oper):List Nat→Array Bool→Bool
 | [],_=>true
 | k::ks,l=>(Region.ready md ops l).contains k&&Region.free md ops l k&&plainAt ops k&&headP md ops ks (l.setIfInBounds k true)
def opsAt (ops:Array Oper) (ks:List Nat):List Oper:=ks.filterMap fun k=>ops[k]?
theorem head_walkP (hs:Region.noSelect ops=true) (hQ:∀c a a' w,Q (.panic c) a w→Q (.panic c) a' w) {Lq:Act→Prop} {fuel:Nat} {w:World} (hS:S w) :
 ∀(h:List Oper) (ks:List Nat) (l:Array Bool) (a:Act),ks.map (fun k=>ops[k]?)=h.map some→headP md ops ks l=true→wpQuiet P ops (CS S) Lq h a →
   (∀a',Lq a'→wpAnyH P md ops Q S fuel (setL ks l) a' w)→wpAnyH P md ops Q S (h.length+fuel) l a w
 | [],[],l,a,_,_,hw,hn=>by rw [List.length_nil,Nat.zero_add];exact hn a hw
 | [],k::ks,l,a,he,_,_,_=>by simp at he
 | o::h,[],l,a,he,_,_,_=>by simp at he
 | o::h,k::ks,l,a,he,hB,hw,hn=>by
   simp only [List.map_cons,List.cons.injEq] at he
   obtain⟨h0,he'⟩:=he
   simp only [headP,Bool.and_eq_true] at hB
   obtain⟨⟨⟨hr,hf⟩,hp⟩,hB'⟩:=hB
   have hpl:plainB o=true:=by unfold plainAt at hp;rw [h0] at hp;exact hp
   have hq:∃v,YieldsIf P ops S o v a∧wpQuiet P ops (CS S) Lq h (a.put o.dst v):=by
    unfold wpQuiet at hw
    split at hw
    ·rename_i hwt
     obtain⟨v,h1,h2⟩:=hw
     exact⟨v,.inl ⟨hwt,fun w' hw'=>quiet_plain hpl (h1 w' (CS.of hw'))⟩,h2⟩
    ·rename_i hwt
     exact⟨undef,.inr ⟨by simpa using hwt,rfl⟩,hw⟩
   obtain⟨v,hy,hw2⟩:=hq
   rw [List.length_cons,show h.length+1+fuel=(h.length+fuel)+1 by omega]
   refine wpAnyH_take h0 hs hf hr (fun c a' w' hh=>hQ c _ _ w' hh) hy hS ?_
   exact head_walkP hs hQ hS h ks _ _ he' hB' hw2 hn
theorem headP_ops:∀(ks:List Nat) (l:Array Bool),headP md ops ks l=true→ks.map (fun k=>ops[k]?)=(opsAt ops ks).map some
 | [],_,_=>rfl
 | k::ks,l,h=>by
   simp only [headP,Bool.and_eq_true] at h
   obtain⟨⟨_,hp⟩,hB⟩:=h
   cases ho:ops[k]? with
   | none=>unfold plainAt at hp;rw [ho] at hp;cases hp
   | some o =>
     have:=headP_ops ks _ hB
     unfold opsAt at this ⊢
     rw [List.map_cons,this,List.filterMap_cons,ho]
     rfl
def segHP (P:Program) (ops:Array Oper) (S:World→Prop) (Q:Exit→Act→World→Prop):List (List Nat × Nat)→List Nat→Act→World→Prop
 | [],z,a,w=>wpQuiet P ops (fun w'=>∃p:WIn S,w'=p.w) (fun a'=>Q .normal a' w) (opsAt ops z) a
 | x::t,z,a,w=>wpQuiet P ops (fun w'=>∃p:WIn S,w'=p.w) (fun a'=>∀K:Act→World→Prop,(∀a w,S w→segHP P ops S Q t z a w→K a w)→wpList P ops (Exit.then K Q) (opsAt ops [x.2]) a' w) (opsAt ops x.1) a
def segP (md:Region.Mode) (ops:Array Oper):List (List Nat × Nat)→List Nat→Array Bool→Bool
 | [],z,l=>headP md ops z l&&(Region.ready md ops (setL z l)).isEmpty
 | x::t,z,l=>headP md ops x.1 l&&decide (Region.ready md ops (setL x.1 l)=[x.2])&&loudAt ops x.2&&segP md ops t z ((setL x.1 l).setIfInBounds x.2 true)
def cntP (ops:Array Oper):List (List Nat × Nat)→List Nat→Nat
 | [],z=>(opsAt ops z).length
 | x::t,z=>(opsAt ops x.1).length+(cntP ops t z+1)
theorem seg_walkP (hs:Region.noSelect ops=true) (hQ:∀c a a' w,Q (.panic c) a w→Q (.panic c) a' w) :
 ∀(t:List (List Nat × Nat)) (z:List Nat) (li:Array Bool) (a:Act) (w:World),segP md ops t z li=true→S w→segHP P ops S Q t z a w→wpAnyH P md ops Q S (cntP ops t z) li a w
 | [],z,li,a,w,hB,hS,h=>by
   simp only [segP,Bool.and_eq_true] at hB
   unfold segHP at h
   have:=head_walkP (fuel:=0) hs hQ hS (opsAt ops z) z li a (headP_ops z li hB.1) hB.1 h (fun a' ha=>wpAnyH_done (by simpa using hB.2) ha 0)
   simpa [cntP] using this
 | x::t,z,li,a,w,hB,hS,h=>by
   simp only [segP,Bool.and_eq_true,decide_eq_true_eq] at hB
   obtain⟨⟨⟨hB1,hr⟩,hl⟩,hB2⟩:=hB
   unfold segHP at h
   unfold cntP
   cases hok:ops[x.2]? with
   | none=>unfold loudAt at hl;rw [hok] at hl;cases hl
   | some o =>
     have hg:∀a':Act,Region.wanted o (yielded ops a'.tmps)=true:=fun a'=>by
      unfold loudAt at hl
      rw [hok] at hl
      unfold Region.wanted
      have:o.guard=none:=by simpa using hl
      rw [this]
     have hd:opsAt ops [x.2]=[o]:=by unfold opsAt;simp [hok]
     refine head_walkP hs hQ hS (opsAt ops x.1) x.1 li a (headP_ops x.1 li hB1) hB1 h (fun a' ha=>?_)
     rw [hd] at ha
     exact loud_walk hok hr hS (hg a') ha (fun a2 w2 hS2 h2=>seg_walkP hs hQ t z _ a2 w2 hB2 hS2 h2)
theorem wp_region_segP {id:Nat} {a:Act} {w:World} {l:List Oper} (S:World→Prop) (t:List (List Nat × Nat)) (z:List Nat) (hm:P.follows .mixedOrders=true)
 (hB:(Region.noSelect l.toArray&&segP .any l.toArray t z (Array.replicate l.length false)&&decide (cntP l.toArray t z=l.length))=true)
 (hS:S w.drew) (h:segHP P l.toArray S (NoPanic Q) t z a w.drew):(Code.region id l.toArray true).wp P Q a w:=by
 simp only [Bool.and_eq_true,decide_eq_true_eq] at hB
 refine wp_region_noPanic (wp_region_any hm (wpAny_of_held _ _ _ _ (?_:wpAnyH P .any l.toArray (NoPanic Q) S _ _ a w.drew)))
 have:=seg_walkP (md:=.any) hB.1.1 (fun _ _ _ _ h=>h) t z _ a w.drew hB.1.2 hS h
 rw [hB.2] at this
 simpa using this
end
end
end Go.Proofs.YtlmjbfncopbilaaGreatDoor
