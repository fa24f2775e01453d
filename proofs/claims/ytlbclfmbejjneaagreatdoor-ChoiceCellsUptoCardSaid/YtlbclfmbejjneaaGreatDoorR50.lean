/- Part 50 (merged by a program): lemmas of no further condition than each states. -/
import Derived.Test.YtlbclfmbejjneaaGreatDoorR45
namespace Go.Proofs.YtlbclfmbejjneaaGreatDoor
set_option linter.unusedVariables false
set_option linter.unusedSimpArgs false
section
def RiseL:Int→List (Int × Int)→Prop
 | _,[]=>True
 | lo,p::t=>lo≤p.1∧1≤p.2∧RiseL (p.1+p.2+1) t
def endL:Int→List (Int × Int)→Int
 | lo,[]=>lo
 | _,p::t=>endL (p.1+p.2+1) t
theorem rise_snoc:∀(pre:List (Int × Int)) (lo:Int) (p:Int × Int),RiseL lo (pre++[p])↔RiseL lo pre∧endL lo pre≤p.1∧1≤p.2
 | [],lo,p=>by simp [RiseL,endL]
 | q::t,lo,p=>by
   rw [List.cons_append,RiseL,RiseL,rise_snoc t,endL]
   exact⟨fun ⟨a,b,c,d,e⟩=>⟨⟨a,b,c⟩,d,e⟩,fun ⟨⟨a,b,c⟩,d,e⟩=>⟨a,b,c,d,e⟩⟩
theorem end_snoc:∀(pre:List (Int × Int)) (lo:Int) (p:Int × Int),endL lo (pre++[p])=p.1+p.2+1
 | [],_,_=>rfl
 | q::t,lo,p=>by rw [List.cons_append,endL,end_snoc t]
theorem end_up:∀(l:List (Int × Int)) (lo:Int),RiseL lo l→lo≤endL lo l
 | [],lo,_=>Int.le_refl _
 | p::t,lo,h=>by
   obtain⟨h1,h2,h3⟩:=h
   have:=end_up t _ h3
   rw [endL]
   omega
theorem rise_get:∀(l:List (Int × Int)) (lo:Int),RiseL lo l→∀(i:Nat) (p:Int × Int),l[i]? = some p→lo≤p.1∧(1:Int)≤p.2∧p.1+p.2+1≤endL lo l∧∀q:Int × Int,l[i+1]? = some q→p.1+p.2+1≤q.1
 | [],_,_,i,p,h=>by simp at h
 | r::t,lo,h,0,p,hp=>by
   have:r=p:=by simpa using hp
   subst this
   obtain⟨h1,h2,h3⟩:=h
   refine⟨h1,h2,by rw [endL];exact end_up t _ h3,fun q hq=>?_⟩
   rw [List.getElem?_cons_succ] at hq
   exact (rise_get t _ h3 0 q hq).1
 | r::t,lo,h,i+1,p,hp=>by
   obtain⟨h1,h2,h3⟩:=h
   rw [List.getElem?_cons_succ] at hp
   obtain⟨g1,g2,g3,g4⟩:=rise_get t _ h3 i p hp
   exact⟨by omega,g2,by rw [endL];exact g3,fun q hq=>g4 q (by rwa [List.getElem?_cons_succ] at hq)⟩
def pickB (a b:Int) (c:Ce):Bool:=decide (a≤(c.a:Int))&&decide ((c.a:Int)<b)
def cntF (a b:Int):List Ce→Int
 | []=>0
 | c::t=>(if pickB a b c=true then 1 else 0)+cntF a b t
theorem inI_app (l m:List (Int × Int)) (y:Int):inI (l++m) y=(inI l y||inI m y):=by unfold inI;rw [List.any_append]
theorem inI_one (p:Int × Int) (y:Int):inI [p] y=(decide (p.1≤y)&&decide (y<p.1+p.2)):=by unfold inI;simp
theorem sumI_app:∀(l m:List (Int × Int)),sumI (l++m)=sumI l+sumI m
 | [],m=>by simp [sumI]
 | p::t,m=>by rw [List.cons_append,sumI,sumI_app t,sumI];omega
def SpJ (x:Int) (op:Bool) (out:List (Int × Int)):Prop:=RiseL 0 out∧(op=true→∃pre p,out=pre++[p]∧p.1+p.2=x)∧(op=false→endL 0 out≤x)
theorem SpJ.le {x:Int} {op:Bool} {out:List (Int × Int)} (h:SpJ x op out):endL 0 out≤x+1:=by
 cases op with
 | false=>have:=h.2.2 rfl;omega
 | true =>
   obtain⟨pre,p,e,e2⟩:=h.2.1 rfl
   rw [e,end_snoc]
   omega
def nextO (x:Int) (op:Bool) (out:List (Int × Int)):List (Int × Int):=if op=true then out.set (out.length-1) ((out.getD (out.length-1) (0,0)).1,(out.getD (out.length-1) (0,0)).2+1) else out++[(x,1)]
theorem next_set (pre:List (Int × Int)) (p:Int × Int) (x:Int):nextO x true (pre++[p])=pre++[(p.1,p.2+1)]:=by
 unfold nextO
 rw [if_pos rfl]
 have hl:(pre++[p]).length-1=pre.length:=by simp
 rw [hl]
 have hg:(pre++[p]).getD pre.length (0,0)=p:=by rw [List.getD_eq_getElem?_getD,List.getElem?_append_right (Nat.le_refl _),Nat.sub_self];rfl
 rw [hg,List.set_append_right _ _ (Nat.le_refl _),Nat.sub_self]
 rfl
theorem next_ok {x:Int} {op:Bool} {out:List (Int × Int)} (h:SpJ x op out) :
 SpJ (x+1) true (nextO x op out)∧(∀y,inI (nextO x op out) y=(inI out y||decide (y=x)))∧sumI (nextO x op out)=sumI out+1:=by
 obtain⟨h1,h2,h3⟩:=h
 cases op with
 | false =>
   have h4:=h3 rfl
   have e:nextO x false out=out++[(x,1)]:=by unfold nextO;rw [if_neg (by decide)]
   rw [e]
   refine⟨⟨(rise_snoc _ _ _).2 ⟨h1,h4,by show (1:Int)≤1;omega⟩,fun _=>⟨out,(x,1),rfl,rfl⟩,(fun h=>by cases h)⟩,fun y=>?_,by rw [sumI_app];rfl⟩
   rw [inI_app,inI_one]
   congr 1
   rw [Bool.eq_iff_iff,Bool.and_eq_true,decide_eq_true_eq,decide_eq_true_eq,decide_eq_true_eq]
   show (x≤y∧y<x+1)↔_
   omega
 | true =>
   obtain⟨pre,p,rfl,e2⟩:=h2 rfl
   rw [next_set]
   obtain⟨g1,g2,g3⟩:=(rise_snoc _ _ _).1 h1
   refine⟨⟨(rise_snoc _ _ _).2 ⟨g1,g2,by show (1:Int)≤p.2+1;omega⟩,fun _=>⟨pre,(p.1,p.2+1),rfl,by show p.1+(p.2+1)=x+1;omega⟩,(fun h=>by cases h)⟩,fun y=>?_,?_⟩
   ·rw [inI_app,inI_app,inI_one,inI_one,Bool.or_assoc]
    congr 1
    rw [Bool.eq_iff_iff]
    simp only [Bool.or_eq_true,Bool.and_eq_true,decide_eq_true_eq]
    omega
   ·rw [sumI_app,sumI_app]
    show sumI pre+((p.2+1)+0)=sumI pre+(p.2+0)+1
    omega
theorem spF_step (a b:Int) (c:Ce) (t:List Ce) (x:Int) (op:Bool) (out:List (Int × Int)):spF a b (c::t) x op out=if pickB a b c=true then spF a b t (x+1) true (nextO x op out) else spF a b t (x+1) false out:=by
 rw [spF_cons]
 rfl
theorem spF_all (a b:Int):∀(cs:List Ce) (x:Int) (op:Bool) (out:List (Int × Int)),0≤x→SpJ x op out →
 RiseL 0 (spF a b cs x op out)∧endL 0 (spF a b cs x op out)≤x+cs.length+1∧sumI (spF a b cs x op out)=sumI out+cntF a b cs ∧
  (∀y,y<x→inI (spF a b cs x op out) y=inI out y)∧(∀y,x≤y→inI out y=false→∀c,cs[(y-x).toNat]? = some c→inI (spF a b cs x op out) y=pickB a b c)
 | [],x,op,out,h0,h=>by
   rw [spF]
   exact⟨h.1,by have:=h.le;simp;omega,by simp [cntF],fun _ _=>rfl,fun y hy hi c hc=>by simp at hc⟩
 | c::t,x,op,out,h0,h=>by
   rw [spF_step,cntF,List.length_cons]
   by_cases hp:pickB a b c=true
   ·rw [if_pos hp,if_pos hp]
    obtain⟨k1,k2,k3⟩:=next_ok h
    obtain⟨i1,i2,i3,i4,i5⟩:=spF_all a b t (x+1) true _ (by omega) k1
    refine⟨i1,by omega,by rw [i3,k3];omega,fun y hy=>?_,fun y hy hi d hd=>?_⟩
    ·rw [i4 y (by omega),k2,decide_eq_false (by omega),Bool.or_false]
    ·by_cases e:y=x
     ·subst e
      rw [Int.sub_self] at hd
      have:c=d:=by simpa using hd
      subst this
      rw [i4 y (by omega),k2,decide_eq_true rfl,Bool.or_true,hp]
     ·refine i5 y (by omega) (by rw [k2,hi,decide_eq_false e];rfl) d ?_
      rw [show (y-x).toNat=(y-(x+1)).toNat+1 by omega] at hd
      exact hd
   ·rw [if_neg hp,if_neg hp]
    have hpf:pickB a b c=false:=by simpa using hp
    obtain⟨i1,i2,i3,i4,i5⟩:=spF_all a b t (x+1) false out (by omega) ⟨h.1,(fun h=>by cases h),fun _=>h.le⟩
    refine⟨i1,by omega,by rw [i3];omega,fun y hy=>i4 y (by omega),fun y hy hi d hd=>?_⟩
    by_cases e:y=x
    ·subst e
     rw [Int.sub_self] at hd
     have:c=d:=by simpa using hd
     subst this
     rw [i4 y (by omega),hi,hpf]
    ·refine i5 y (by omega) hi d ?_
     rw [show (y-x).toNat=(y-(x+1)).toNat+1 by omega] at hd
     exact hd
theorem cnt_bd (a b:Int):∀cs:List Ce,0≤cntF a b cs∧cntF a b cs≤cs.length
 | []=>by simp [cntF]
 | c::t=>by
   have:=cnt_bd a b t
   rw [cntF,List.length_cons]
   split <;> omega
theorem cnt_two (a m b:Int) (h1:a≤m) (h2:m≤b):∀cs:List Ce,cntF a m cs+cntF m b cs=cntF a b cs
 | []=>rfl
 | c::t=>by
   have:=cnt_two a m b h1 h2 t
   rw [cntF,cntF,cntF]
   have e:∀x y:Int,pickB x y c=true↔x≤(c.a:Int)∧(c.a:Int)<y:=fun x y=>by unfold pickB;rw [Bool.and_eq_true,decide_eq_true_eq,decide_eq_true_eq]
   simp only [e]
   split <;> split <;> split <;> omega
theorem spans_plain (cs:List Ce) (a b:Int):(∀(i:Nat) (p:Int × Int),(spansI cs a b)[i]? = some p→(0:Int)≤p.1∧(1:Int)≤p.2∧p.1+p.2≤(cs.length:Int)∧∀q:Int × Int,(spansI cs a b)[i+1]? = some q→p.1+p.2<q.1) ∧
 (∀(k:Nat) (c:Ce),cs[k]? = some c→inI (spansI cs a b) (k:Int)=pickB a b c)∧sumI (spansI cs a b)=cntF a b cs:=by
 obtain⟨i1,i2,i3,i4,i5⟩:=spF_all a b cs 0 false [] (Int.le_refl _) ⟨trivial,(fun h=>by cases h),fun _=>Int.le_refl _⟩
 refine⟨fun i p hp=>?_,fun k c hc=>i5 k (Int.natCast_nonneg k) rfl c (by rw [Int.sub_zero,Int.toNat_natCast];exact hc),by unfold spansI;rw [i3];simp [sumI]⟩
 obtain⟨g1,g2,g3,g4⟩:=rise_get _ 0 i1 i p hp
 exact⟨g1,g2,by omega,fun q hq=>by have:=g4 q hq;omega⟩
theorem spans_len (cs:List Ce) (a b:Int):(spansI cs a b).length≤cs.length:=by
 have key:∀(t:List Ce) (x:Int) (op:Bool) (out:List (Int × Int)),(spF a b t x op out).length≤out.length+t.length:=fun t=>by
  induction t with
  | nil=>intro x op out;rw [spF];simp
  | cons c t ih =>
    intro x op out
    rw [spF_step,List.length_cons]
    split
    ·have:=ih (x+1) true (nextO x op out)
     have h2:(nextO x op out).length≤out.length+1:=by unfold nextO;split <;> simp
     omega
    ·have:=ih (x+1) false out;omega
 have:=key cs 0 false []
 simpa [spansI] using this
end
section
open Go.RowKit Go.Proofs Go.Shelf
attribute [local go_sem] Oper.semAt_some
theorem cntF_bd (a b:Int):∀cs:List Ce,0≤cntF a b cs∧cntF a b cs≤(cs.length:Int)
 | []=>⟨Int.le_refl _,Int.le_refl _⟩
 | c::t=>by
   obtain⟨h1,h2⟩:=cntF_bd a b t
   rw [cntF,List.length_cons]
   split <;> omega
theorem sumI_take:∀(l:List (Int × Int)),(∀p∈l,(0:Int)≤p.2)→∀k,0≤sumI (l.take k)∧sumI (l.take k)≤sumI l
 | [],_,k=>by simp [sumI]
 | p::t,h,0=>by
   have h1:=sumI_take t (fun q hq=>h q (List.mem_cons_of_mem _ hq)) 0
   have h2:=h p (List.mem_cons_self ..)
   rw [List.take_zero] at h1 ⊢
   rw [sumI] at h1
   show (0:Int)≤0∧0≤sumI (p::t)
   rw [sumI]
   omega
 | p::t,h,k+1=>by
   have h1:=sumI_take t (fun q hq=>h q (List.mem_cons_of_mem _ hq)) k
   have h2:=h p (List.mem_cons_self ..)
   rw [List.take_succ_cons,sumI,sumI]
   omega
theorem spans_small (cs:List Ce) (hc:cs.length≤39845888) (a b:Int):smallP (spansI cs a b)∧(spansI cs a b).length≤39845888∧(∀k,0≤sumI ((spansI cs a b).take k)∧sumI ((spansI cs a b).take k)≤1099511627776):=by
 obtain⟨h1,_,h3⟩:=spans_plain cs a b
 have hp:∀p∈spansI cs a b,(0:Int)≤p.1∧(1:Int)≤p.2∧p.1+p.2≤(cs.length:Int):=fun p hp=>by
  obtain⟨i,hi⟩:=List.mem_iff_getElem?.1 hp
  obtain⟨q1,q2,q3,_⟩:=h1 i p hi
  exact⟨q1,q2,q3⟩
 refine⟨fun p h=>?_,Nat.le_trans (spans_len cs a b) hc,fun k=>?_⟩
 ·have:=hp p h
  omega
 ·have h4:=sumI_take (spansI cs a b) (fun p h=>by have:=hp p h;omega) k
  have h5:=cntF_bd a b cs
  omega
theorem count_of (l:List (Int × Int)) (n:Nat) (hl:l.length=n) (h:smallP l∧l.length≤39845888∧(∀k,0≤sumI (l.take k)∧sumI (l.take k)≤1099511627776)) (base c:Nat) (a:Option Addr) (w:World) (hO:OwnS spE 59 w base (.slice a n c) l) :
 Calls Tryz.prog 27 #[.slice a n c] w fun e w'=>e=.returned (.int .i64 (sumI l))∧w=w':=count_any l n hl (by omega) h.1 h.2.2 base c a w hO
set_option maxRecDepth 100000 in
set_option maxHeartbeats 4000000 in
theorem LawCC_any (s:ByteArray) (hs:s.size≤2097152) (ra rl lev rwd fin tab want:Int) (wideA join raw:Bool) (f md t:Int) (w:World) (hT:T8 w) (hD:DB w) :
 Calls Tryz.prog 8 #[.string s,.agg #[.int .i64 ra,.int .i64 rl,.int .u8 lev,.int .i64 rwd,.int .i8 fin],.agg #[.int .i64 tab,.bool wideA,.int .i8 want,.bool join,.bool raw],.int .i64 f,.int .i64 md,.int .i64 t] w fun e w'=>e=.returned (.bool true)∧Below w.heap.size w w':=by
 have HT:=lh (fun (W:World) (h:Below w.heap.size w W)=>(⟨hT.below rfl h,hD.below h⟩:T8 W∧DB W))
 have HWK:=lh (fun (W:World) (h:Below w.heap.size w W)=>works_any W (HT.out W h).1 (HT.out W h).2)
 have HC:=lh (fun (W:World) (h:Below w.heap.size w W)=>Cells_any s hs ra rl lev rwd fin tab want wideA join raw W (HT.out W h).1 (HT.out W h).2 (lay2_lv s want join raw ra rl) (lay_good s tab want wideA join raw ra rl rwd))
 have hn2:=cells_le s tab want wideA join raw ra rl rwd hs
 have HSP:=lh (fun (f t:Int) (l:List (Int × Int)) (n:Nat) (hl:spansI (cellsI (layI s tab want wideA join raw ra rl rwd)) (loI f t s.size) (hiI f t s.size)=l) (hn:l.length=n) (W:World) (h:Below w.heap.size w W)=>spans_of s hs ra rl lev rwd fin tab want f t wideA join raw l n hl hn W (HT.out W h).1 (HT.out W h).2)
 unfold rowA5 at HC
 obtain⟨cs,hcs⟩:∃cs,cellsI (layI s tab want wideA join raw ra rl rwd)=cs:=⟨_,rfl⟩
 rw [hcs] at HC hn2 HSP
 obtain⟨n,hn⟩:∃n,cs.length=n:=⟨_,rfl⟩
 rw [hn] at HC hn2
 obtain⟨a,ha⟩:∃a,max 0 (min f (s.size:Int))=a:=⟨_,rfl⟩
 obtain⟨b,hb⟩:∃b,max 0 (min t (s.size:Int))=b:=⟨_,rfl⟩
 obtain⟨lo,hlo⟩:∃lo,min a b=lo:=⟨_,rfl⟩
 obtain⟨hi,hhi⟩:∃hi,max a b=hi:=⟨_,rfl⟩
 obtain⟨x0,hx0⟩:∃x,min md hi=x:=⟨_,rfl⟩
 obtain⟨m,hm⟩:∃m,max lo x0=m:=⟨_,rfl⟩
 have e1:loI f t s.size=lo:=by unfold loI;rw [ha,hb,hlo]
 have e2:hiI f t s.size=hi:=by unfold hiI;rw [ha,hb,hhi]
 have b1:lo≤m:=by omega
 have b2:m≤hi:=by omega
 have b0:0≤lo:=by omega
 have b3:hi≤(s.size:Int):=by omega
 have e3:loI lo m s.size=lo:=by unfold loI;omega
 have e4:hiI lo m s.size=m:=by unfold hiI;omega
 have e5:loI m hi s.size=m:=by unfold loI;omega
 have e6:hiI m hi s.size=hi:=by unfold hiI;omega
 obtain⟨k1,k2,k3⟩:=spans_plain cs lo hi
 obtain⟨_,_,k4⟩:=spans_plain cs lo m
 obtain⟨_,_,k5⟩:=spans_plain cs m hi
 have kk:=cnt_two lo m hi b1 b2 cs
 have s1:=spans_small cs (by omega) lo hi
 have s2:=spans_small cs (by omega) lo m
 have s3:=spans_small cs (by omega) m hi
 have cb:=cntF_bd lo hi cs
 have cb2:=cntF_bd lo m cs
 have cb3:=cntF_bd m hi cs
 obtain⟨Q,hQ⟩:∃Q,spansI cs lo hi=Q:=⟨_,rfl⟩
 obtain⟨O1,hO1⟩:∃Q,spansI cs lo m=Q:=⟨_,rfl⟩
 obtain⟨O2,hO2⟩:∃Q,spansI cs m hi=Q:=⟨_,rfl⟩
 obtain⟨q,hq⟩:∃q,Q.length=q:=⟨_,rfl⟩
 obtain⟨o1,ho1⟩:∃q,O1.length=q:=⟨_,rfl⟩
 obtain⟨o2,ho2⟩:∃q,O2.length=q:=⟨_,rfl⟩
 rw [hQ] at k1 k2 k3 s1
 rw [hO1] at k4 s2
 rw [hO2] at k5 s3
 have HS1:=lh (HSP.out f t Q q (by rw [e1,e2,hQ]) hq)
 have HS2:=lh (HSP.out lo m O1 o1 (by rw [e3,e4,hO1]) ho1)
 have HS3:=lh (HSP.out m hi O2 o2 (by rw [e5,e6,hO2]) ho2)
 have HN1:=lh (fun (base c:Nat) (a:Option Addr) (W:World) (h:OwnS spE 59 W base (.slice a q c) Q)=>count_of Q q hq s1 base c a W h)
 have HN2:=lh (fun (base c:Nat) (a:Option Addr) (W:World) (h:OwnS spE 59 W base (.slice a o1 c) O1)=>count_of O1 o1 ho1 s2 base c a W h)
 have HN3:=lh (fun (base c:Nat) (a:Option Addr) (W:World) (h:OwnS spE 59 W base (.slice a o2 c) O2)=>count_of O2 o2 ho2 s3 base c a W h)
 have HIN:=lh (fun (base c:Nat) (a:Option Addr) (x:Int) (W:World) (h:OwnS spE 59 W base (.slice a q c) Q)=>in_any Q q hq (by omega) s1.1 base c a x W h)
 obtain⟨z1,hz1⟩:∃z,sumI Q=z:=⟨_,rfl⟩
 obtain⟨z2,hz2⟩:∃z,sumI O1=z:=⟨_,rfl⟩
 obtain⟨z3,hz3⟩:∃z,sumI O2=z:=⟨_,rfl⟩
 rw [hz1] at HN1 k3
 rw [hz2] at HN2 k4
 rw [hz3] at HN3 k5
 have hzz:z2+z3=z1:=by omega
 have hqn:q≤39845888:=by omega
 have hwz:IntKind.i64.wrap (z2+z3)=z1:=by rw [IntKind.wrap_i64];omega
 have K1:=lh k1
 have K2:=lh k2
 have HQL:=lh hq
 have HNL:=lh hn
 clear e1 e2 e3 e4 e5 e6 k1 k2 k3 k4 k5 kk s1 s2 s3 cb cb2 cb3 hQ hO1 hO2 hq ho1 ho2 hz1 hz2 hz3 hcs hn HSP b0 b1 b2 b3 hzz hT hD
 go_enter Tryz.func8,Tryz.ntmps8
 go_upto_region 1 with (fail)
 obtain⟨h0,h1,hb1,hs1⟩:=two_boxes w (.cells #[.int .i64 ra,.int .i64 rl,.int .u8 lev,.int .i64 rwd,.int .i8 fin] 24) (.cells #[.int .i64 tab,.bool wideA,.int .i8 want,.bool join,.bool raw] 26)
 generalize (w.alloc (.cells #[.int .i64 ra,.int .i64 rl,.int .u8 lev,.int .i64 rwd,.int .i8 fin] 24)).alloc (.cells #[.int .i64 tab,.bool wideA,.int .i8 want,.bool join,.bool raw] 26)=W1 at h0 h1 hb1 hs1 ⊢
 obtain⟨B,hB⟩:∃B,w.heap.size=B:=⟨_,rfl⟩
 have HB1:=lh hb1
 rw [hB] at h0 h1 hs1 ⊢
 have HY:Hid (∀W,Below W1.heap.size W1 W→W.cell? ⟨B,0,none⟩=some (.int .i64 ra)∧W.cell? ⟨B,1,none⟩=some (.int .i64 rl)∧W.cell? ⟨B,2,none⟩=some (.int .u8 lev)∧W.cell? ⟨B,3,none⟩=some (.int .i64 rwd)∧W.cell? ⟨B,4,none⟩=some (.int .i8 fin) ∧
  W.cell? ⟨B+1,0,none⟩=some (.int .i64 tab)∧W.cell? ⟨B+1,1,none⟩=some (.bool wideA)∧W.cell? ⟨B+1,2,none⟩=some (.int .i8 want)∧W.cell? ⟨B+1,3,none⟩=some (.bool join)∧W.cell? ⟨B+1,4,none⟩=some (.bool raw)):=lh fun W h=>by
  have g1:=(h.block B (by omega)).trans h0
  have g2:=(h.block (B+1) (by omega)).trans h1
  refine⟨?_,?_,?_,?_,?_,?_,?_,?_,?_,?_⟩ <;> simp [World.cell?,g1,g2]
 clear h0 h1 hb1
 go_upto_region 4 with (go_at_call 24;refine (HWK.out W1 HB1.out).mono ?_;rintro e w2 ⟨rfl,hb2⟩)
 have HB2:=lh hb2
 have HW2:=lh (HB1.out.trans (hb2.mono HB1.out.size))
 clear hb2 HWK
 go_upto_region 5 with (fail)
 clear ha hb
 go_upto_region 6 with (fail)
 clear hlo hhi
 go_upto_region 7 with (fail)
 clear hx0 hm
 obtain⟨y0,y1,y2,y3,y4,y5,y6,y7,y8,y9⟩:=HY.out w2 HB2.out
 have HCC:=lh (HC.out w2 HW2.out)
 clear HC
 go_upto_region 8 with (go_at_call 12;refine HCC.out.mono ?_;rintro e w3 ⟨ca,cc,rfl,hO3,hb3⟩)
 have HB3:=lh (HB2.out.trans (hb3.mono HB2.out.size))
 have HW3:=lh (HW2.out.trans (hb3.mono HW2.out.size))
 have HO3:=lh hO3
 clear y0 y1 y2 y3 y4 y5 y6 y7 y8 y9 hO3 hb3 HCC HB2 HW2
 obtain⟨y0,y1,y2,y3,y4,y5,y6,y7,y8,y9⟩:=HY.out w3 HB3.out
 go_upto_region 9 with (go_at_call 25;refine (HS1.out w3 HW3.out).mono ?_;rintro e w4 ⟨sa,sc,rfl,hO4,hb4⟩)
 have HB4:=lh (HB3.out.trans (hb4.mono HB3.out.size))
 have HW4:=lh (HW3.out.trans (hb4.mono HW3.out.size))
 have HO34:=lh (HO3.out.keep hb4)
 have HO4:=lh hO4
 clear y0 y1 y2 y3 y4 y5 y6 y7 y8 y9 hO4 hb4 HO3 HB3 HW3 HS1
 go_wp2_with (fail)
 go_loopw [59] (fun u59 wx=>∃k:Nat,k≤q∧u59=.int .i64 k∧Below w4.heap.size w4 wx) (fun u59 _=>q-(intOf u59).toNat)
 case atStart=>exact⟨0,Nat.zero_le _,rfl,Below.refl _ _⟩
 case round =>
  obtain⟨k,hk,rfl,hb⟩:=hrel
  have HBr:=lh hb
  have hOr:=HO4.out.keep hb
  clear hb
  by_cases hlt:k<q
  ·obtain⟨p,hp⟩:∃p,Q[k]? = some p:=⟨_,List.getElem?_eq_getElem (by have:=HQL.out;omega)⟩
   obtain⟨G,eG,g0,g1⟩:=sp_at HQL.out hOr k p hp
   subst eG
   obtain⟨p1,p2,p3,p4⟩:=K1.out k p hp
   have hil:(k:Int)<(q:Int):=by omega
   have HOr:=lh hOr
   have HP:=lh hp
   clear hp hOr
   go_upto_region 13 with (fail)
   have hbA:Below wr.heap.size wr (wr.alloc (.cells #[.int .i64 p.1,.int .i64 p.2] 59)):=(Below.refl _ _).alloc (Nat.le_refl _) _
   have hyA:=World.alloc_heap_new wr (.cells #[.int .i64 p.1,.int .i64 p.2] 59)
   generalize wr.alloc (.cells #[.int .i64 p.1,.int .i64 p.2] 59)=V at hbA hyA ⊢
   obtain⟨R,hR⟩:∃R,wr.heap.size=R:=⟨_,rfl⟩
   have HOV:=lh (HOr.out.keep hbA)
   have HBV:=lh (HBr.out.trans (hbA.mono HBr.out.size))
   rw [hR] at hyA ⊢
   have v0:V.cell? ⟨R,0,none⟩=some (.int .i64 p.1):=by simp [World.cell?,hyA]
   have v1:V.cell? ⟨R,1,none⟩=some (.int .i64 p.2):=by simp [World.cell?,hyA]
   have hwp:IntKind.i64.wrap (p.1+p.2)=p.1+p.2:=by have:=HNL.out;rw [IntKind.wrap_i64];omega
   have d1:decide (p.1<0)=false:=decide_eq_false (by omega)
   have d2:decide (p.2<1)=false:=decide_eq_false (by omega)
   have d3:decide ((n:Int)<p.1+p.2)=false:=decide_eq_false (by have:=HNL.out;omega)
   clear hbA hyA hR g0 g1
   cases k with
   | zero =>
     clear p1 p2 p3 p4
     go_wp2_with (fail)
     go_quiet (fail)
     go_wp2_with (fail)
     go_roundw
     case rel=>exact⟨1,by omega,by go_num,bl_drewN HBV.out _⟩
     case measure=>simp [intOf];omega
   | succ j =>
     obtain⟨r,hr⟩:∃r,Q[j]? = some r:=⟨_,List.getElem?_eq_getElem (by have:=HQL.out;omega)⟩
     obtain⟨G',eG',g0,g1⟩:=sp_at HQL.out HOV.out j r hr
     cases eG'
     obtain⟨r1,r2,r3,r4⟩:=K1.out j r hr
     have hrp:=r4 p HP.out
     have hwr:IntKind.i64.wrap (r.1+r.2)=r.1+r.2:=by have:=HNL.out;rw [IntKind.wrap_i64];omega
     have d4:decide (p.1≤r.1+r.2)=false:=decide_eq_false (by omega)
     have d5:decide ((0:Int)<((j+1:Nat):Int))=true:=decide_eq_true (by omega)
     have d6:decide ((0:Int)<(j:Int)+1)=true:=decide_eq_true (by omega)
     have hwj:IntKind.i64.wrap (((j+1:Nat):Int)-1)=(j:Int):=by rw [IntKind.wrap_i64];omega
     have hwj2:IntKind.i64.wrap ((j:Int)+1-1)=(j:Int):=by rw [IntKind.wrap_i64];omega
     have hwj3:IntKind.i64.wrap (j:Int)=(j:Int):=by rw [IntKind.wrap_i64];omega
     have hj0:(0:Int)≤(j:Int):=by omega
     have hjq:(j:Int)<(q:Int):=by omega
     have HJQ:=lh hlt
     clear hr hrp r1 r2 r3 r4 p1 p2 p3 p4
     go_wp2_with (fail)
     go_quiet (fail)
     go_wp2_with (fail)
     go_roundw
     case rel=>exact⟨j+1+1,by have:=HJQ.out;omega,by go_num,bl_drewN HBV.out _⟩
     case measure=>have:=HJQ.out;simp [intOf];omega
  ·clear hOr
   go_wp2_with (fail)
   go_loopw [109] (fun u109 wx=>∃k:Nat,k≤n∧u109=.int .i64 k∧Below w4.heap.size w4 wx) (fun u109 _=>n-(intOf u109).toNat)
   case atStart=>exact⟨0,Nat.zero_le _,rfl,HBr.out⟩
   case round =>
    obtain⟨k,hk,rfl,hb⟩:=hrel
    have HBr:=lh hb
    clear hb
    by_cases hlt:k<n
    ·obtain⟨c,hc⟩:∃c,cs[k]? = some c:=⟨_,List.getElem?_eq_getElem (by have:=HNL.out;omega)⟩
     obtain⟨G,eG,_,_,x2,_,_,_⟩:=ce_all4 HNL.out HO34.out k c hc
     subst eG
     have hGl:=cell_lt x2
     have hinx:=K2.out k c hc
     unfold pickB at hinx
     have hkn:(k:Int)<(n:Int):=by omega
     have x2r:wr.cell? ⟨G,k*6+2,none⟩=some (.int .i64 c.a):=cell_bl HBr.out hGl x2
     obtain⟨S,hS1,hS2⟩:∃S:World→Prop,(∀w',S w'→Below w4.heap.size w4 w')∧(∀w',Below w4.heap.size w4 w'→S w'):=⟨fun w'=>Below w4.heap.size w4 w',fun _ h=>h,fun _ h=>h⟩
     have kp0:∀p:WIn S,p.w.cell? ⟨G,k*6+2,none⟩=some (.int .i64 c.a):=fun p=>cell_bl (hS1 _ p.h) hGl x2
     have HSi:=lh hS2
     have hne:Nonempty (WIn S):=⟨⟨w4,hS2 _ (Below.refl _ _)⟩⟩
     clear hS1 hS2 hc x2 hGl
     go_upto_region 19 with (fail)
     by_cases c1:lo≤(c.a:Int)
     ·have c1d:decide (lo≤(c.a:Int))=true:=decide_eq_true c1
      by_cases c2:(c.a:Int)<hi
      ·have c2d:decide ((c.a:Int)<hi)=true:=decide_eq_true c2
       have hin:inI Q (k:Int)=true:=by rw [hinx,c1d,c2d];rfl
       clear hinx c1 c2
       have HI:Hid (∀W,Below w4.heap.size w4 W→Calls Tryz.prog 26 #[.slice sa q sc,.int .i64 k] W fun e w'=>e=.returned (.bool true)∧Below W.heap.size W w'):=lh fun W h=>by
        have:=HIN.out _ _ _ (k:Int) W (HO4.out.keep h)
        rw [hin] at this
        exact this
       clear hin
       refine wp_region_segP S [([0,1,3,4,5,6,7,8,9],2)] [10,11,12,13,14,15,16,17,18,19] (by kernel_rfl) (by kernel_rfl) (HSi.out _ HBr.out.drew) ?_
       simp only [segHP,opsAt,List.filterMap_cons,List.filterMap_nil,List.getElem?_toArray,List.getElem?_cons_zero,List.getElem?_cons_succ]
       show wpQuiet _ _ _ _ [_,_,_,_,_,_,_,_,_] _
       repeat (go_big_quiet_step (fail))
       refine wpQuiet_nil ?_
       intro K hK
       have HKK:=lh hK
       clear hK
       show wpList _ _ _ [_] _ _
       go_wp2_with (go_at_call 26;refine (HI.out _ HBr.out.drew).mono ?_;rintro e w6 ⟨rfl,hb6⟩)
       have HB6:=lh (HBr.out.drew.trans (hb6.mono HBr.out.size))
       refine HKK.out _ _ (HSi.out _ HB6.out) ?_
       clear HKK hb6
       show wpQuiet _ _ _ _ [_,_,_,_,_,_,_,_,_,_] _
       repeat (go_big_quiet_step (fail))
       refine wpQuiet_nil ?_
       simp only [NoPanic]
       go_wp2_with (fail)
       go_roundw
       case rel=>exact⟨k+1,by omega,by go_num,HB6.out⟩
       case measure=>simp [intOf];omega
      ·have c2d:decide ((c.a:Int)<hi)=false:=decide_eq_false c2
       have hin:inI Q (k:Int)=false:=by rw [hinx,c1d,c2d];rfl
       clear hinx c1 c2
       have HI:Hid (∀W,Below w4.heap.size w4 W→Calls Tryz.prog 26 #[.slice sa q sc,.int .i64 k] W fun e w'=>e=.returned (.bool false)∧Below W.heap.size W w'):=lh fun W h=>by
        have:=HIN.out _ _ _ (k:Int) W (HO4.out.keep h)
        rw [hin] at this
        exact this
       clear hin
       refine wp_region_segP S [([0,1,3,4,5,6,7,8,9],2)] [10,11,12,13,14,15,16,17,18,19] (by kernel_rfl) (by kernel_rfl) (HSi.out _ HBr.out.drew) ?_
       simp only [segHP,opsAt,List.filterMap_cons,List.filterMap_nil,List.getElem?_toArray,List.getElem?_cons_zero,List.getElem?_cons_succ]
       show wpQuiet _ _ _ _ [_,_,_,_,_,_,_,_,_] _
       repeat (go_big_quiet_step (fail))
       refine wpQuiet_nil ?_
       intro K hK
       have HKK:=lh hK
       clear hK
       show wpList _ _ _ [_] _ _
       go_wp2_with (go_at_call 26;refine (HI.out _ HBr.out.drew).mono ?_;rintro e w6 ⟨rfl,hb6⟩)
       have HB6:=lh (HBr.out.drew.trans (hb6.mono HBr.out.size))
       refine HKK.out _ _ (HSi.out _ HB6.out) ?_
       clear HKK hb6
       show wpQuiet _ _ _ _ [_,_,_,_,_,_,_,_,_,_] _
       repeat (go_big_quiet_step (fail))
       refine wpQuiet_nil ?_
       simp only [NoPanic]
       go_wp2_with (fail)
       go_roundw
       case rel=>exact⟨k+1,by omega,by go_num,HB6.out⟩
       case measure=>simp [intOf];omega
     ·have c1d:decide (lo≤(c.a:Int))=false:=decide_eq_false c1
      have hin:inI Q (k:Int)=false:=by rw [hinx,c1d];rfl
      clear hinx c1
      have HI:Hid (∀W,Below w4.heap.size w4 W→Calls Tryz.prog 26 #[.slice sa q sc,.int .i64 k] W fun e w'=>e=.returned (.bool false)∧Below W.heap.size W w'):=lh fun W h=>by
       have:=HIN.out _ _ _ (k:Int) W (HO4.out.keep h)
       rw [hin] at this
       exact this
      clear hin
      refine wp_region_segP S [([0,1,3,4,5,6,7,8,9],2)] [10,11,12,13,14,15,16,17,18,19] (by kernel_rfl) (by kernel_rfl) (HSi.out _ HBr.out.drew) ?_
      simp only [segHP,opsAt,List.filterMap_cons,List.filterMap_nil,List.getElem?_toArray,List.getElem?_cons_zero,List.getElem?_cons_succ]
      show wpQuiet _ _ _ _ [_,_,_,_,_,_,_,_,_] _
      repeat (go_big_quiet_step (fail))
      refine wpQuiet_nil ?_
      intro K hK
      have HKK:=lh hK
      clear hK
      show wpList _ _ _ [_] _ _
      go_wp2_with (go_at_call 26;refine (HI.out _ HBr.out.drew).mono ?_;rintro e w6 ⟨rfl,hb6⟩)
      have HB6:=lh (HBr.out.drew.trans (hb6.mono HBr.out.size))
      refine HKK.out _ _ (HSi.out _ HB6.out) ?_
      clear HKK hb6
      show wpQuiet _ _ _ _ [_,_,_,_,_,_,_,_,_,_] _
      repeat (go_big_quiet_step (fail))
      refine wpQuiet_nil ?_
      simp only [NoPanic]
      go_wp2_with (fail)
      go_roundw
      case rel=>exact⟨k+1,by omega,by go_num,HB6.out⟩
      case measure=>simp [intOf];omega
    ·have hkn:¬ (k:Int)<(n:Int):=by omega
     have HBY:=lh (HB4.out.trans (HBr.out.mono HB4.out.size))
     have HBW:=lh (HW4.out.trans (HBr.out.mono HW4.out.size))
     have HOQ:=lh (HO4.out.keep HBr.out)
     obtain⟨y0,y1,y2,y3,y4,y5,y6,y7,y8,y9⟩:=HY.out wr HBY.out
     go_upto_region 23 with (go_at_call 25;refine (HS2.out wr HBW.out).mono ?_;rintro e w7 ⟨a7,c7,rfl,hO7,hb7⟩)
     have HB7:=lh (HBY.out.trans (hb7.mono HBY.out.size))
     have HW7:=lh (HBW.out.trans (hb7.mono HBW.out.size))
     have HOQ7:=lh (HOQ.out.keep hb7)
     have HO7:=lh hO7
     clear y0 y1 y2 y3 y4 y5 y6 y7 y8 y9 hO7 hb7 HS2 HBY HBW HOQ
     obtain⟨y0,y1,y2,y3,y4,y5,y6,y7,y8,y9⟩:=HY.out w7 HB7.out
     go_upto_region 24 with (go_at_call 25;refine (HS3.out w7 HW7.out).mono ?_;rintro e w8 ⟨a8,c8,rfl,hO8,hb8⟩)
     have HW8:=lh (HW7.out.trans (hb8.mono HW7.out.size))
     have HOQ8:=lh (HOQ7.out.keep hb8)
     have HO78:=lh (HO7.out.keep hb8)
     have HO8:=lh hO8
     clear y0 y1 y2 y3 y4 y5 y6 y7 y8 y9 hO8 hb8 HS3 HB7 HW7 HOQ7 HO7
     go_wp2_with (first | (go_at_call 27;refine (HN2.out _ _ _ _ HO78.out).mono ?_;rintro e w9 ⟨rfl,rfl⟩;clear HN2) | (go_at_call 27;refine (HN3.out _ _ _ _ HO8.out).mono ?_;rintro e w9 ⟨rfl,rfl⟩;clear HN3) | (go_at_call 27;refine (HN1.out _ _ _ _ HOQ8.out).mono ?_;rintro e w9 ⟨rfl,rfl⟩;clear HN1))
     go_ret
     exact⟨by simp,hB▸HW8.out⟩
end
end Go.Proofs.YtlbclfmbejjneaaGreatDoor
