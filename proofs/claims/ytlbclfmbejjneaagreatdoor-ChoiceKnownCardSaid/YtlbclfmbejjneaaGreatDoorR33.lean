/- Part 33 (merged by a program): lemmas of no further condition than each states. -/
import Derived.Test.YtlbclfmbejjneaaGreatDoorR14
namespace Go.Proofs.YtlbclfmbejjneaaGreatDoor
set_option linter.unusedVariables false
set_option linter.unusedSimpArgs false
section
open Go.RowKit Go.Proofs Go.Shelf
attribute [local go_sem] Oper.semAt_some
set_option maxRecDepth 100000 in
set_option maxHeartbeats 200000 in
theorem pieces1_inC (n:Nat) (l Bn n₀:Nat) (s:ByteArray) (hs:s.size≤9223372036854775807) (h3:Tryz.lays197_ren.g 3<n₀) (h4:Tryz.lays197_ren.g 4<n₀) (J Jx:List (PieceOf s)→World→Prop) (W:World) (hle:n₀≤W.heap.size) (hJ:StaysAt W.heap.size 0 W.heap.size J)
 (hY:∀pre x W1,J pre W1→(pre++[x]).map (·.1) <+: piecesI s→W.heap.size≤W1.heap.size→YieldAt Fence.wide n Tryz.prog l (encP x.1) W1 fun e W'=>KeepsFrom W.heap.size W1 W' ∧
   ((e=.returned (.bool true)∧J (pre++[x]) W'∧KpB Bn n₀ W1 W')∨(e=.returned (.bool false)∧Jx (pre++[x]) W')))
 (hBn:W.cell? ⟨Bn,0,none⟩=some (.string s)) (hT:T8 W) (h0:J [] W) :
 CallsIn Fence.wide n Tryz.prog 54 #[.func (.yield l) #[] #[],.pointer (some ⟨Bn,0,none⟩)] W fun e W'=>(∃v,e=.returned v) ∧
  ((∃ys:List (PieceOf s),ys.map (·.1)=piecesI s∧J ys W')∨(∃pre:List (PieceOf s),pre.map (·.1) <+: piecesI s∧Jx pre W')):=by
 have HTK:=lh (fun (w':World) (hb:Below n₀ W w')=>hT.keep h3 h4 hb)
 have HY:=lh hY
 have HJ:=lh hJ
 clear h3 h4 hT hY hJ
 refine callsIn_wide.2 ((callsIn_wide (n:=4)).1 ?_)
 refine callsIn_of_wp Tryz.func54 rfl trivial ?_ rfl
 simp only [Tryz.ntmps54,List.size_toArray,List.length_cons,List.length_nil,Nat.reduceAdd,Nat.reduceSub,Array.replicate_succ,Array.replicate_zero,List.push_toArray,List.append_toArray,List.nil_append,List.cons_append]
 gi_wp2
 gi_loopw [3,4] (fun u3 _ wr=>∃(a f:Nat) (pre:List (PieceOf s)),u3=.int .i64 a∧a≤s.size∧s.size≤a+f∧piecesI s=pre.map (·.1)++piecesF s f a∧J pre wr∧W.heap.size≤wr.heap.size∧Below n₀ W wr∧wr.cell? ⟨Bn,0,none⟩=some (.string s))
  (fun u3 _ _=>s.size-(intOf u3).toNat)
 case atStart=>exact⟨0,s.size,[],rfl,Nat.zero_le _,by omega,rfl,h0,Nat.le_refl _,Below.refl _ _,hBn⟩
 case round =>
  obtain⟨a,f,pre,rfl,ha,hf,hp,hJp,hsz,hb,hcx⟩:=hrel
  by_cases hlt:a<s.size
  ·obtain⟨t,ht⟩:∃t,s.extract a s.size=t:=⟨_,rfl⟩
   have htz:t.size=s.size-a:=by rw [←ht];exact ext_size s a ha
   have hnb:=nextI_bd t (by omega)
   obtain⟨m,hm⟩:∃m,nextI t=m:=⟨_,rfl⟩
   obtain⟨f,rfl⟩:∃g,f=g+1:=⟨f-1,by omega⟩
   rw [piecesF,if_pos hlt,ht,hm] at hp
   rw [hm] at hnb
   obtain⟨e,he⟩:∃e,a+m=e:=⟨_,rfl⟩
   rw [he] at hp
   obtain⟨c,hc⟩:∃c,s.extract a e=c:=⟨_,rfl⟩
   rw [hc] at hp
   have hN:=lh (Next_any t wr (HTK.out wr hb) (by omega))
   rw [hm] at hN
   have hpc:a+c.size≤s.size:=by rw [←hc];simp [ByteArray.size_extract];omega
   obtain⟨pc,hpcv⟩:∃pc:PieceOf s,pc.1=(a,c):=⟨⟨(a,c),hpc⟩,rfl⟩
   have HPC:=lh hpcv
   clear hpcv
   have hlen:(pre++[pc]).map (·.1) <+: piecesI s:=⟨piecesF s f e,by rw [hp,List.map_append,List.append_assoc,List.map_singleton,HPC.out];rfl⟩
   have HP:=lh hp
   have HT:=lh ht
   have HC:=lh hc
   have HL:=lh hlen
   have g0:(0:Int)≤(a:Int):=by omega
   have g1:(a:Int)<(s.size:Int):=by omega
   have g2:(a:Int)≤(s.size:Int):=by omega
   have g3:(e:Int)≤(s.size:Int):=by omega
   have g4:(a:Int)≤(e:Int):=by omega
   have ge:(0:Int)≤(e:Int):=by omega
   have ew:wrap64 ((a:Int)+(m:Int))=(e:Int):=by unfold wrap64;omega
   have HE:=lh he
   have HB:=lh hnb
   have HZ:=lh htz
   have HF:=lh hf
   clear hp ht hm hc hlen he hnb htz hf
   gi_wp2_with (fail)
   refine⟨trivial,?_⟩
   rw [HT.out]
   refine (callsIn_wide.2 hN.out).mono ?_
   rintro e' w2 ⟨rfl,hb2⟩
   have hJ2:=HJ.out.grow hJp hb2
   have hcx2:w2.cell? ⟨Bn,0,none⟩=some (.string s):=cell_bl hb2 (cell_lt hcx) hcx
   obtain⟨fn,tmps,assign,body,hy,hR⟩:=HY.out pre pc w2 hJ2 HL.out (Nat.le_trans hsz hb2.size)
   rw [HPC.out] at hy
   dsimp only [encP] at hy
   rw [←HC.out] at hy
   have HR:=lh hR
   clear hR
   gi_wp2_with (fail)
   refine (roundAny HR.out none).mono ?_
   rintro e' W3 ⟨hkf,(⟨rfl,hJ3,hk3⟩ | ⟨rfl,hJx3⟩)⟩
   ·have hb3:=hb.trans ((hb2.mono (Nat.le_trans hle hb.size)).trans hk3.1)
    have hc3:=hk3.2 _ hcx2
    have hsz2:=hb2.size
    clear hy HR hb2 hk3
    gi_wp2_with (fail)
    go_roundw
    case rel=>exact⟨e,f,pre++[pc],by first | rfl | rw [ew] | simp [ew],by omega,by have:=HF.out;have:=HE.out;have:=HB.out;omega,by rw [HP.out,List.map_append,List.append_assoc,List.map_cons,HPC.out];rfl,hJ3,Nat.le_trans hsz (Nat.le_trans hsz2 hkf.size),hb3,hc3⟩
    case measure =>
     have e1:(intOf (Value.int IntKind.i64 (wrap64 ((a:Int)+(m:Int))))).toNat=e:=by rw [ew];rfl
     have e2:(intOf (Value.int IntKind.i64 (a:Int))).toNat=a:=rfl
     rw [e1,e2]
     exact less_away HE.out HB.out.1 hlt
   ·clear hy HR hb2
    gi_wp2_with (fail)
    refine bodyPost_ret (results_none rfl _ _ _) rfl ?_
    exact⟨⟨_,rfl⟩,.inr ⟨pre++[pc],⟨piecesF s f e,by rw [HP.out,List.map_append,List.append_assoc,List.map_cons,HPC.out];rfl⟩,hJx3⟩⟩
  ·obtain rfl:a=s.size:=by omega
   have hp2:piecesI s=pre.map (·.1):=by
    rw [hp]
    cases f with
    | zero=>rw [piecesF,List.append_nil]
    | succ f=>rw [piecesF,if_neg (by omega),List.append_nil]
   have HP:=lh hp2
   clear hp hp2
   gi_wp2_with (fail)
   go_end0
   exact⟨⟨_,rfl⟩,.inl ⟨pre,HP.out.symm,hJp⟩⟩
theorem pieces_stopsC (Bn n₀:Nat) (s:ByteArray) (hs:s.size≤9223372036854775807) (h3:Tryz.lays197_ren.g 3<n₀) (h4:Tryz.lays197_ren.g 4<n₀) (w:World) (hle:n₀≤w.heap.size)
 (hBn:w.cell? ⟨Bn,0,none⟩=some (.string s)) (hT:T8 w) :
 SeqStopsC 0 Tryz.prog 54 #[.pointer (some ⟨Bn,0,none⟩)] (fun x:PieceOf s=>encP x.1) (KpB Bn n₀) (fun xs=>xs.map (·.1)=piecesI s) (fun pre=>pre.map (·.1) <+: piecesI s) w:=fun n l J Jx W hW hJ hJx hY h0 =>
 pieces1_inC n l Bn n₀ s hs h3 h4 J Jx W (Nat.le_trans hle hW.size) hJ hY (cell_bl hW (cell_lt hBn) hBn) (hT.keep h3 h4 (hW.mono hle)) h0
end
section
open Go Go.RowKit
section
variable {P:Program} {ops ops':Array Oper} {Q Q':Exit→Act→World→Prop} {md:Region.Mode} {F:Fence} {n:Nat}
theorem uponIn_of_none {o:Oper} {a:Act} {w:World} {K:Act→World→Prop} (hQ:∀e a w,Q' e a w→e=.normal) (h:o.wpIn F n P a w K Q'):o.wpIn F n P a w K Q:=by
 unfold Oper.wpIn at *
 refine⟨h.1,?_⟩
 have h:=h.2
 generalize (o.semAt F.round a.eval).run P w=r at *
 have hlo:¬ LetsOut Q':=fun ⟨a',w',h3⟩=>by have:=hQ _ _ _ h3;cases this
 cases r with
 | ok x w' =>
   cases x <;> simp only [Oper.uponIn] at h ⊢ <;>
    first
     | exact h
     | exact⟨h.1,CallsIn.mono h.2 (fun e w'' he=>by cases e <;> first | exact he | (have:=hQ _ _ _ he;cases this) | exact absurd he hlo)⟩
     | exact⟨h.1,RoundIn.mono h.2 (fun e w'' he=>by cases e <;> first | exact he | (have:=hQ _ _ _ he;cases this) | exact absurd he hlo)⟩
 | halt x w'=>cases x <;> simp only [Oper.uponIn] at h ⊢ <;> first | exact h | (have:=hQ _ _ _ h;cases this)
theorem oper_wide {o:Oper} {a:Act} {w:World} {K:Act→World→Prop} (hd:∀c,o.op≠.defer c) (h:o.wp P a w K Q):o.wpIn Fence.wide n P a w K Q:=by
 unfold Oper.wpIn
 refine⟨fun _ _=>trivial,?_⟩
 rw [Oper.semAt_eq _ _ _ hd]
 unfold Oper.wp at h
 generalize (execOp a.eval o).run P w=x at *
 cases x with
 | ok m w' =>
   cases m <;> simp only [Oper.upon] at h <;> simp only [Oper.uponIn]
   case value=>exact h
   case skip=>exact h
   case defer=>exact h
   case enter f args =>
    refine⟨(fun hh=>by cases hh),(callsIn_wide.2 h).mono fun e w'' he=>?_⟩
    cases e <;> exact he
   case row row args =>
    exact⟨(fun hh=>by cases hh),fun c cs _=>let ⟨v,w',r,s⟩:=h c cs;⟨v,w',r,stepsIn_wide.2 s⟩⟩
 | halt y w'=>cases y <;> simp only [Oper.upon] at h <;> simp only [Oper.uponIn] <;> exact h
def headsB (md:Region.Mode) (ops ops':Array Oper) (r:Nat):Nat→List Bool→Bool
 | 0,L=>L.all id
 | f+1,L=>if L.all id then (Region.ready md ops' L.toArray).isEmpty
   else decide (Region.ready md ops (L++List.replicate r false).toArray=Region.ready md ops' L.toArray)&&!(Region.ready md ops' L.toArray).isEmpty&&(Region.ready md ops' L.toArray).all fun i=>headsB md ops ops' r f (L.set i true)
def unguardB (l:List Oper):Bool:=l.all fun o=>o.guard.isNone&&match o.op with | .defer _=>false | _=>true
theorem all_true:∀(l:List Bool),l.all id=true→l=List.replicate l.length true
 | [],_=>rfl
 | b::l,h=>by
   simp only [List.all_cons,Bool.and_eq_true,id] at h
   rw [List.length_cons,List.replicate_succ,h.1,←all_true l h.2]
theorem heads_walk {m r:Nat} (HF:∀(o:Oper) (a:Act) (w:World) (K:Act→World→Prop),(∀c,o.op≠.defer c)→o.wp P a w K Q'→o.wpIn F n P a w K Q')
 (hQ:∀e a w,Q' e a w→e=.normal∧∀fuel,r≤fuel→wpAnyIn F n P md ops Q fuel (List.replicate m true++List.replicate r false).toArray a w)
 (hg:∀(i:Nat) (o:Oper),ops'[i]? = some o→ops[i]? = some o∧o.guard=none∧∀c,o.op≠.defer c) (hz:ops'.size=m)
 : ∀(fuel:Nat) (L:List Bool) (a:Act) (w:World),headsB md ops ops' r fuel L=true→L.length=m→wpAny P md ops' Q' fuel L.toArray a w→wpAnyIn F n P md ops Q (fuel+r) (L++List.replicate r false).toArray a w
 | 0,L,a,w,hB,hL,h=>by
   have:=all_true L hB
   rw [this,hL]
   exact (hQ _ _ _ h.2).2 _ (by omega)
 | fuel+1,L,a,w,hB,hL,h=>by
   have hm:=hB
   rw [headsB] at hm
   by_cases hf:L.all id=true
   ·rw [if_pos hf] at hm
    have:=all_true L hf
    rw [this,hL]
    exact (hQ _ _ _ (h.1 (by simpa using hm))).2 _ (by omega)
   ·rw [if_neg hf] at hm
    simp only [Bool.and_eq_true,decide_eq_true_eq,Bool.not_eq_true',List.isEmpty_eq_false_iff] at hm
    obtain⟨hm,hall⟩:=hm
    have hall:=List.all_eq_true.1 hall
    rw [show fuel+1+r=(fuel+r)+1 by omega]
    refine⟨fun h0=>absurd (hm.1▸h0) hm.2,fun i hi=>?_⟩
    rw [hm.1] at hi
    have h2:=h.2 i hi
    obtain⟨_,o,ho,_⟩:=mem_ready.1 hi
    obtain⟨ho2,hgd,hdf⟩:=hg i o ho
    have hil:i<L.length:=by rw [hL,←hz];exact (Array.getElem?_eq_some_iff.1 ho).1
    unfold wpOp at h2
    rw [ho] at h2
    dsimp only at h2
    unfold wpOpIn
    rw [ho2]
    dsimp only
    rw [if_pos (by unfold Region.wanted;rw [hgd])] at h2 ⊢
    rcases h2 with h2 | ⟨_,a',w',h3⟩
    ·refine uponIn_of_none (fun e a w he=>(hQ e a w he).1) (HF o a w _ hdf (Oper.wp_mono (fun a2 w2 hk=>?_) h2))
     rw [List.setIfInBounds_toArray] at hk
     rw [List.setIfInBounds_toArray,List.set_append_left _ _ hil]
     exact heads_walk HF hQ hg hz fuel (L.set i true) a2 w2 (hall i hi) (by simpa using hL) hk
    ·have:=(hQ _ _ _ h3).1
     cases this
def restB (md:Region.Mode) (ops:Array Oper):Nat→Nat→Bool
 | k,0=>(Region.ready md ops (List.replicate k true).toArray).isEmpty
 | k,j+1=>decide (Region.ready md ops (List.replicate k true++List.replicate (j+1) false).toArray=[k])&&restB md ops (k+1) j
theorem rest_walk:∀(l:List Oper) (k:Nat) (a:Act) (w:World),(∀j,l[j]? = ops[k+j]?)→restB md ops k l.length=true→wpListIn F n P ops Q l a w →
 ∀fuel,l.length≤fuel→wpAnyIn F n P md ops Q fuel (List.replicate k true++List.replicate l.length false).toArray a w
 | [],k,a,w,_,hB,h,fuel,_=>by
   have hr:Region.ready md ops (List.replicate k true++List.replicate ([]:List Oper).length false).toArray=[]:=by
    simpa [restB] using hB
   cases fuel with
   | zero=>exact⟨hr,h⟩
   | succ fuel=>exact⟨fun _=>h,fun i hi=>by rw [hr] at hi;cases hi⟩
 | o::l,k,a,w,he,hB,h,fuel,hf=>by
   simp only [List.length_cons,restB,Bool.and_eq_true,decide_eq_true_eq] at hB
   cases fuel with
   | zero=>simp at hf
   | succ fuel =>
     rw [List.length_cons]
     refine⟨fun h0=>(by rw [hB.1] at h0;cases h0),fun i hi=>?_⟩
     rw [hB.1] at hi
     obtain rfl:i=k:=by simpa using hi
     have h0:ops[i]? = some o:=by simpa using (he 0).symm
     have key:∀a w,wpListIn F n P ops Q l a w→wpAnyIn F n P md ops Q fuel ((List.replicate i true++List.replicate (l.length+1) false).toArray.setIfInBounds i true) a w:=fun a w hh=>by
      have:=rest_walk l (i+1) a w (fun j=>by have:=he (j+1);simpa [Nat.add_assoc,Nat.add_comm 1 j] using this) hB.2 hh fuel (by simpa using hf)
      rw [List.setIfInBounds_toArray,List.set_append_right _ _ (by simp)]
      simp only [List.length_replicate,Nat.sub_self,List.replicate_succ,List.set_cons_zero]
      rw [List.replicate_succ'] at this
      simpa using this
     unfold wpOpIn
     rw [h0]
     unfold wpListIn at h
     dsimp only
     split
     ·rename_i hw
      rw [if_pos hw] at h
      exact Oper.wpIn_mono key h
     ·rename_i hw
      rw [if_neg hw] at h
      exact⟨h.1,key _ _ h.2⟩
def regY (m:Nat) (l:List Oper):Bool:=decide (m≤l.length)&&unguardB (l.take m)&&Region.lexB .any (l.take m).toArray&&headsB .any l.toArray (l.take m).toArray (l.length-m) m (List.replicate m false)&&restB .any l.toArray m (l.length-m)
theorem wpIn_region_headsYF {id:Nat} {a:Act} {w:World} {l:List Oper} (m:Nat)
 (HF:∀(Q':Exit→Act→World→Prop) (o:Oper) (a:Act) (w:World) (K:Act→World→Prop),(∀c,o.op≠.defer c)→o.wp P a w K Q'→o.wpIn F n P a w K Q')
 (hm:P.follows .mixedOrders=true) (hB:regY m l=true)
 (h:wpQuiet P (l.take m).toArray (fun w'=>∃k,w'=w.drewN k) (fun a'=>∀w',(∃k,w'=w.drewN k)→wpListIn F n P l.toArray Q (l.drop m) a' w') (l.take m) a):(Code.region id l.toArray true).wpIn F n P Q a w:=by
 unfold regY at hB
 simp only [Bool.and_eq_true,decide_eq_true_eq] at hB
 obtain⟨⟨⟨⟨hml,hu⟩,hlex⟩,hh⟩,hr⟩:=hB
 simp only [Region.lexB,Bool.and_eq_true] at hlex
 have hlen:(l.take m).length=m:=by simp;omega
 refine wpIn_region_any hm ?_
 have hq:=wpAnyQ_lex (C:=fun w'=>∃k,w'=w.drewN k) (md:=.any) hlex.1 (l.take m) 0 (Array.replicate m false) a (by simp) (by simpa [hlen] using hlex.2) h
 have hw:=wpAny_of_quiet (Q':=fun e a w'=>e=.normal∧(∃k,w'=w.drewN k)∧wpListIn F n P l.toArray Q (l.drop m) a w') (fun a2 w2 hw2 hx=>⟨rfl,hw2,hx w2 hw2⟩) _ _ _ _ ⟨1,rfl⟩ hq
 have:=heads_walk (md:=.any) (ops:=l.toArray) (ops':=(l.take m).toArray) (Q:=Q) (Q':=fun e a w'=>e=.normal∧(∃k,w'=w.drewN k)∧wpListIn F n P l.toArray Q (l.drop m) a w') (m:=m) (r:=l.length-m) (HF _) (fun e a2 w2 he=>⟨he.1,fun fuel hf=>by
  have:=rest_walk (md:=.any) (l.drop m) m a2 w2 (fun j=>by simp) (by simpa using hr) he.2.2 fuel (by simpa using hf)
  simpa using this⟩)
  (fun i o ho=>by
    have hu':=List.all_eq_true.1 hu
    have ho':(l.take m)[i]? = some o:=by simpa using ho
    have hlt:i<m:=by have:=(List.getElem?_eq_some_iff.1 ho').1;omega
    have h1:=hu' o (List.mem_of_getElem? ho')
    simp only [Bool.and_eq_true,Option.isNone_iff_eq_none] at h1
    refine⟨?_,h1.1,fun c hc=>by rw [hc] at h1;cases h1.2⟩
    rw [List.getElem?_take,if_pos hlt] at ho'
    simpa using ho')
  (by simp;omega) m (List.replicate m false) a (w.drewN 1) hh (by simp) (by rw [hlen] at hw;rw [←List.toArray_replicate] at hw;exact hw)
 have he:(List.replicate m false++List.replicate (l.length-m) false).toArray=Array.replicate l.toArray.size false:=by
  rw [List.replicate_append_replicate,Nat.add_sub_cancel' hml,←List.toArray_replicate]
  simp
 rw [he,Nat.add_sub_cancel' hml] at this
 exact this
theorem wpIn_region_headsY {id r:Nat} {a:Act} {w:World} {l:List Oper} (m:Nat) (hm:P.follows .mixedOrders=true) (hB:regY m l=true)
 (h:wpQuiet P (l.take m).toArray (fun w'=>∃k,w'=w.drewN k) (fun a'=>∀w',(∃k,w'=w.drewN k)→wpListIn (Fence.wide.inRound r) n P l.toArray Q (l.drop m) a' w') (l.take m) a):(Code.region id l.toArray true).wpIn (Fence.wide.inRound r) n P Q a w :=
 wpIn_region_headsYF m (fun Q' o a w K hd hh=>oper_round hd hh) hm hB h
theorem wpIn_region_headsW {id:Nat} {a:Act} {w:World} {l:List Oper} (m:Nat) (hm:P.follows .mixedOrders=true) (hB:regY m l=true)
 (h:wpQuiet P (l.take m).toArray (fun w'=>∃k,w'=w.drewN k) (fun a'=>∀w',(∃k,w'=w.drewN k)→wpListIn Fence.wide n P l.toArray Q (l.drop m) a' w') (l.take m) a):(Code.region id l.toArray true).wpIn Fence.wide n P Q a w :=
 wpIn_region_headsYF m (fun Q' o a w K hd hh=>oper_wide hd hh) hm hB h
end
end
end Go.Proofs.YtlbclfmbejjneaaGreatDoor
