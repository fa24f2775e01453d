/- Part 42 (merged by a program): lemmas of no further condition than each states. -/
import Derived.ChangeKeysEq
import Derived.Test.YtlbclfmbejjneaaGreatDoorR41
namespace Go.Proofs.YtlbclfmbejjneaaGreatDoor
set_option linter.unusedVariables false
set_option linter.unusedSimpArgs false
section
open Go.RowKit Go.Proofs Go.Shelf
attribute [local go_sem] Oper.semAt_some
theorem two_under:Tryz.prog.underlying 59=some (.array 2 3):=by kernel_rfl
theorem int_cells:Tryz.prog.cellsOf 3=1:=by kernel_rfl
theorem eq_two (p q:Int × Int) (w:World):(Op.equalIn 10000 59 (.agg #[.int .i64 p.1,.int .i64 p.2]) (.agg #[.int .i64 q.1,.int .i64 q.2])).run Tryz.prog w=.ok (decide (p=q)) w:=by
 obtain⟨a,b⟩:=p
 obtain⟨c,d⟩:=q
 dsimp only
 obtain⟨i,hi⟩:∃i,Tryz.prog.info? 3=some i:=by
  have h:(Tryz.prog.info? 3).isSome=true:=by kernel_rfl
  exact Option.isSome_iff_exists.1 h
 rw [run_equalIn_array w 9999 _ _ two_under hi,int_cells]
 have p3:∀(xs:Array Value) (off:Nat) (v:Value) (w:World),xs[off]? = some v→(part 3 xs off).run Tryz.prog w=.ok v w:=fun xs off v w hx=>by simp [part,isAgg,run_underlying Tryz.underlying3,hx]
 have e3:=fun (a b:Int)=>run_equalIn_int w 9998 3 .i64 .i64 a b Tryz.underlying3
 simp only [Nat.reduceAdd] at e3
 have hr:List.range 2=[0,1]:=rfl
 rw [hr]
 simp only [Op.eqItems,Sem.run_bind]
 rw [p3 _ _ (.int .i64 a) w (by rfl),Result.andThen_ok,p3 _ _ (.int .i64 c) w (by rfl),Result.andThen_ok,e3,Result.andThen_ok]
 by_cases h1:a=c
 case neg =>
  have h1':(a==c)=false:=by simpa using h1
  rw [h1',decide_eq_false (fun e=>h1 (Prod.mk.inj e).1)]
  simp
 have h1':(a==c)=true:=by simpa using h1
 rw [h1']
 simp only [Bool.not_true,Bool.false_eq_true,if_false,if_true,Sem.run_bind]
 rw [p3 _ _ (.int .i64 b) w (by rfl),Result.andThen_ok,p3 _ _ (.int .i64 d) w (by rfl),Result.andThen_ok,e3,Result.andThen_ok]
 by_cases h2:b=d
 case neg =>
  have h2':(b==d)=false:=by simpa using h2
  rw [h2',decide_eq_false (fun e=>h2 (Prod.mk.inj e).2)]
  simp
 have h2':(b==d)=true:=by simpa using h2
 rw [h2',decide_eq_true (by rw [h1,h2])]
 simp
theorem rc_fields:(Tryz.prog.fieldsOf 90).toList=[{ name := "X",type:=3,offset:=0,embedded:=false,tag := "",pkgPath := "",byteOffset:=0 },{ name := "Y",type:=3,offset:=1,embedded:=false,tag := "",pkgPath := "",byteOffset:=8 },{ name := "W",type:=3,offset:=2,embedded:=false,tag := "",pkgPath := "",byteOffset:=16 },{ name := "H",type:=3,offset:=3,embedded:=false,tag := "",pkgPath := "",byteOffset:=24 }]:=by kernel_rfl
theorem rc_held:Tryz.prog.stoodInHeld 90=false:=by kernel_rfl
theorem rc_under:Tryz.prog.underlying 90=some (.struct (Tryz.prog.fieldsOf 90)):=by kernel_rfl
theorem eq_rc (r s:Rc) (w:World) :
 (Op.equalIn 10000 90 (.agg #[.int .i64 r.x,.int .i64 r.y,.int .i64 r.w,.int .i64 r.h]) (.agg #[.int .i64 s.x,.int .i64 s.y,.int .i64 s.w,.int .i64 s.h])).run Tryz.prog w=.ok (decide (r=s)) w:=by
 obtain⟨a1,a2,a3,a4⟩:=r
 obtain⟨b1,b2,b3,b4⟩:=s
 dsimp only
 rw [run_equalIn_struct w 9999 90 _ _ rc_under rc_held,rc_fields]
 have p3:∀(xs:Array Value) (off:Nat) (v:Value) (w:World),xs[off]? = some v→(part 3 xs off).run Tryz.prog w=.ok v w:=fun xs off v w hx=>by simp [part,isAgg,run_underlying Tryz.underlying3,hx]
 have e3:=fun (a b:Int)=>run_equalIn_int w 9998 3 .i64 .i64 a b Tryz.underlying3
 simp only [Nat.reduceAdd] at e3
 have key:∀(f:Field) (fs:List Field) (xs ys:Array Value) (x y:Value) (b:Bool),f.name ≠ "_" → (part f.type xs f.offset).run Tryz.prog w=.ok x w→(part f.type ys f.offset).run Tryz.prog w=.ok y w→(Op.equalIn 9999 f.type x y).run Tryz.prog w=.ok b w →
  (Op.eqFields 9999 xs ys (f::fs)).run Tryz.prog w=if b=true then (Op.eqFields 9999 xs ys fs).run Tryz.prog w else .ok false w:=by
  intro f fs xs ys x y b h0 h1 h2 h3
  simp only [Op.eqFields,if_pos h0,Sem.run_bind,h1,h2,h3,Result.andThen_ok]
  cases b <;> simp [Sem.run_pure]
 refine Eq.trans (key _ _ _ _ _ _ _ (by simp) (p3 _ _ _ w (by rfl)) (p3 _ _ _ w (by rfl)) (e3 _ _)) ?_
 by_cases h1:a1=b1
 case neg=>rw [if_neg (by simpa using h1),decide_eq_false (by simp [h1])]
 rw [if_pos (by simpa using h1)]
 refine Eq.trans (key _ _ _ _ _ _ _ (by simp) (p3 _ _ _ w (by rfl)) (p3 _ _ _ w (by rfl)) (e3 _ _)) ?_
 by_cases h2:a2=b2
 case neg=>rw [if_neg (by simpa using h2),decide_eq_false (by simp [h2])]
 rw [if_pos (by simpa using h2)]
 refine Eq.trans (key _ _ _ _ _ _ _ (by simp) (p3 _ _ _ w (by rfl)) (p3 _ _ _ w (by rfl)) (e3 _ _)) ?_
 by_cases h3:a3=b3
 case neg=>rw [if_neg (by simpa using h3),decide_eq_false (by simp [h3])]
 rw [if_pos (by simpa using h3)]
 refine Eq.trans (key _ _ _ _ _ _ _ (by simp) (p3 _ _ _ w (by rfl)) (p3 _ _ _ w (by rfl)) (e3 _ _)) ?_
 by_cases h4:a4=b4
 case neg=>rw [if_neg (by simpa using h4),decide_eq_false (by simp [h4])]
 rw [if_pos (by simpa using h4)]
 rw [decide_eq_true (by simp [h1,h2,h3,h4])]
 simp [Op.eqFields]
def rcE:Enc Rc:=⟨fun r=>[.int .i64 r.x,.int .i64 r.y,.int .i64 r.w,.int .i64 r.h],4,fun _=>rfl⟩
theorem rc_at {w:World} {base n c:Nat} {a:Option Addr} {l:List Rc} (hl:l.length=n) (hO:OwnS rcE 90 w base (.slice a n c) l) (i:Nat) (x:Rc) (hx:l[i]? = some x) :
 ∃G,a=some ⟨G,0,none⟩∧w.cell? ⟨G,i*4,none⟩=some (.int .i64 x.x)∧w.cell? ⟨G,i*4+1,none⟩=some (.int .i64 x.y)∧w.cell? ⟨G,i*4+2,none⟩=some (.int .i64 x.w)∧w.cell? ⟨G,i*4+3,none⟩=some (.int .i64 x.h):=by
 subst hl
 obtain⟨G,eG,_,_,hc,_⟩:=hO.at i x hx
 exact⟨G,eG,hc 0 _ rfl,hc 1 _ rfl,hc 2 _ rfl,hc 3 _ rfl⟩
theorem takeS_snoc {α:Type} {l:List α} {i:Nat} {r:α} (h:l[i]? = some r):l.take (i+1)=l.take i++[r]:=by
 rw [List.take_add_one,h]
 rfl
set_option maxRecDepth 100000 in
set_option maxHeartbeats 1000000 in
theorem same2_any (l m:List (Int × Int)) (n k:Nat) (hn:l.length=n) (hk:m.length=k) (hz:n≤39845888) (hz2:k≤39845888) (b1 c1 b2 c2:Nat) (pa pb:Option Addr) (w:World) (ha:OwnS spE 59 w b1 (.slice pa n c1) l) (hb:OwnS spE 59 w b2 (.slice pb k c2) m) :
 Calls Tryz.prog 31 #[.slice pa n c1,.slice pb k c2] w fun e w'=>e=.returned (.bool (decide (l=m)))∧∃d,w'=w.drewN d:=by
 by_cases hnk:n=k
 case neg =>
  have c0:((n:Int) != (k:Int))=true:=by rw [bne_iff_ne];omega
  have hne:¬ l=m:=fun e=>by rw [e] at hn;omega
  clear ha hb
  go_enter Tryz.func31,Tryz.ntmps31
  go_wp2_with (fail)
  go_ret
  exact⟨ret_b (decide_eq_false hne).symm,0,rfl⟩
 subst hnk
 have c0:((n:Int) != (n:Int))=false:=by simp
 have HA:=lh ha
 have HB:=lh hb
 clear ha hb
 go_enter Tryz.func31,Tryz.ntmps31
 go_wp2_with (fail)
 go_loopw [13] (fun c wx=>∃(i d:Nat),i≤n∧c=.int .i64 i∧wx=w.drewN d∧l.take i=m.take i) (fun c _=>n-(intOf c).toNat)
 case atStart=>exact⟨0,0,by omega,rfl,rfl,rfl⟩
 case round =>
  obtain⟨i,d,hi,rfl,rfl,ht⟩:=hrel
  have HT:=lh ht
  clear ht
  by_cases hlt:i<n
  ·obtain⟨r,hr⟩:∃r,l[i]? = some r:=⟨_,List.getElem?_eq_getElem (by omega)⟩
   obtain⟨s,hs⟩:∃s,m[i]? = some s:=⟨_,List.getElem?_eq_getElem (by omega)⟩
   obtain⟨G1,rfl,x0,x1⟩:=sp_at hn HA.out i r hr
   obtain⟨G2,rfl,y0,y1⟩:=sp_at hk HB.out i s hs
   have HR:=lh hr
   have HS:=lh hs
   clear hr hs
   have hil:(i:Int)<(n:Int):=by omega
   have hwi:IntKind.i64.wrap ((i:Int)+1)=(i:Int)+1:=by rw [IntKind.wrap_i64];omega
   by_cases he:r=s
   ·have heq:=fun w=>eq_two r s w
    rw [decide_eq_true he] at heq
    have HE:=lh he
    clear he
    go_wp2_with (fail)
    go_quiet (fail)
    go_wp2_with (fail)
    go_roundw
    case rel=>exact⟨i+1,_,by omega,by go_num,rfl,by rw [takeS_snoc HR.out,takeS_snoc HS.out,HT.out,HE.out]⟩
    case measure=>simp [intOf];omega
   ·have heq:=fun w=>eq_two r s w
    rw [decide_eq_false he] at heq
    have HE:=lh he
    clear he
    go_wp2_with (fail)
    go_quiet (fail)
    go_wp2_with (fail)
    go_ret
    have hne:¬ l=m:=fun e=>HE.out (by have h1:=HR.out;rw [e,HS.out] at h1;exact (Option.some.inj h1).symm)
    exact⟨ret_b (decide_eq_false hne).symm,_,World.drewN_drewN _ _ _⟩
  ·obtain rfl:i=n:=by omega
   have hE:l=m:=by
    have:=HT.out
    rwa [List.take_of_length_le (by omega),List.take_of_length_le (by omega)] at this
   go_wp2_with (fail)
   go_ret
   exact⟨ret_b (decide_eq_true hE).symm,_,rfl⟩
set_option maxRecDepth 100000 in
set_option maxHeartbeats 1000000 in
theorem same4_any (l m:List Rc) (n k:Nat) (hn:l.length=n) (hk:m.length=k) (hz:n≤39845888) (hz2:k≤39845888) (b1 c1 b2 c2:Nat) (pa pb:Option Addr) (w:World) (ha:OwnS rcE 90 w b1 (.slice pa n c1) l) (hb:OwnS rcE 90 w b2 (.slice pb k c2) m) :
 Calls Tryz.prog 42 #[.slice pa n c1,.slice pb k c2] w fun e w'=>e=.returned (.bool (decide (l=m)))∧∃d,w'=w.drewN d:=by
 by_cases hnk:n=k
 case neg =>
  have c0:((n:Int) != (k:Int))=true:=by rw [bne_iff_ne];omega
  have hne:¬ l=m:=fun e=>by rw [e] at hn;omega
  clear ha hb
  go_enter Tryz.func42,Tryz.ntmps42
  go_wp2_with (fail)
  go_ret
  exact⟨ret_b (decide_eq_false hne).symm,0,rfl⟩
 subst hnk
 have c0:((n:Int) != (n:Int))=false:=by simp
 have HA:=lh ha
 have HB:=lh hb
 clear ha hb
 go_enter Tryz.func42,Tryz.ntmps42
 go_wp2_with (fail)
 go_loopw [13] (fun c wx=>∃(i d:Nat),i≤n∧c=.int .i64 i∧wx=w.drewN d∧l.take i=m.take i) (fun c _=>n-(intOf c).toNat)
 case atStart=>exact⟨0,0,by omega,rfl,rfl,rfl⟩
 case round =>
  obtain⟨i,d,hi,rfl,rfl,ht⟩:=hrel
  have HT:=lh ht
  clear ht
  by_cases hlt:i<n
  ·obtain⟨r,hr⟩:∃r,l[i]? = some r:=⟨_,List.getElem?_eq_getElem (by omega)⟩
   obtain⟨s,hs⟩:∃s,m[i]? = some s:=⟨_,List.getElem?_eq_getElem (by omega)⟩
   obtain⟨G1,rfl,x0,x1,x2,x3⟩:=rc_at hn HA.out i r hr
   obtain⟨G2,rfl,y0,y1,y2,y3⟩:=rc_at hk HB.out i s hs
   have HR:=lh hr
   have HS:=lh hs
   clear hr hs
   have hil:(i:Int)<(n:Int):=by omega
   have hwi:IntKind.i64.wrap ((i:Int)+1)=(i:Int)+1:=by rw [IntKind.wrap_i64];omega
   by_cases he:r=s
   ·have heq:=fun w=>eq_rc r s w
    rw [decide_eq_true he] at heq
    have HE:=lh he
    clear he
    go_wp2_with (fail)
    go_quiet (fail)
    go_wp2_with (fail)
    go_roundw
    case rel=>exact⟨i+1,_,by omega,by go_num,rfl,by rw [takeS_snoc HR.out,takeS_snoc HS.out,HT.out,HE.out]⟩
    case measure=>simp [intOf];omega
   ·have heq:=fun w=>eq_rc r s w
    rw [decide_eq_false he] at heq
    have HE:=lh he
    clear he
    go_wp2_with (fail)
    go_quiet (fail)
    go_wp2_with (fail)
    go_ret
    have hne:¬ l=m:=fun e=>HE.out (by have h1:=HR.out;rw [e,HS.out] at h1;exact (Option.some.inj h1).symm)
    exact⟨ret_b (decide_eq_false hne).symm,_,World.drewN_drewN _ _ _⟩
  ·obtain rfl:i=n:=by omega
   have hE:l=m:=by
    have:=HT.out
    rwa [List.take_of_length_le (by omega),List.take_of_length_le (by omega)] at this
   go_wp2_with (fail)
   go_ret
   exact⟨ret_b (decide_eq_true hE).symm,_,rfl⟩
end
end Go.Proofs.YtlbclfmbejjneaaGreatDoor
