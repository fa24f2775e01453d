/- Part 44 (merged by a program): lemmas of no further condition than each states. -/
import Derived.Test.YtlbclfmbejjneaaGreatDoorR42
import Derived.Test.YtlbclfmbejjneaaGreatDoorR43
namespace Go.Proofs.YtlbclfmbejjneaaGreatDoor
set_option linter.unusedVariables false
set_option linter.unusedSimpArgs false
section
open Go.RowKit Go.Proofs Go.Shelf
attribute [local go_sem] Oper.semAt_some
theorem Tryz.info_row:(Tryz.prog.info? 24).map (fun i=>(i.zero,i.size,i.bytes))=some (some (.agg #[.int .i64 0,.int .i64 0,.int .u8 0,.int .i64 0,.int .i8 0]),5,40):=by kernel_rfl
def OwnR (W:World) (base:Nat) (v:Value) (l:List RowV):Prop:=W.ownsRow base 24 5 v l.length (l.flatMap rcell)
theorem OwnR.nil (W:World) (base:Nat):OwnR W base (.slice none 0 0) []:=⟨rfl,.inl ⟨rfl,rfl⟩⟩
theorem OwnR.rd {W:World} {base cap:Nat} {pa:Option Addr} {l:List RowV} (h:OwnR W base (.slice pa l.length cap) l):RdR W pa l:=by
 cases l with
 | nil=>exact .inl rfl
 | cons x t =>
   obtain⟨G,h1,_,h2,h3⟩:=own_cells h (Nat.succ_pos _)
   refine .inr ⟨G,0,h1,h2,fun i r hi k v hv=>?_⟩
   have hk:k<5:=(List.getElem?_eq_some_iff.1 hv).1
   have hil:=(List.getElem?_eq_some_iff.1 hi).1
   rw [Nat.zero_add]
   exact (h3 (i*5+k) (by omega)).trans (flat5_get _ i r hi k v hv)
theorem far_kept {W W':World} {b t f1 f2 base e size n:Nat} {x:Array Value} {v:Value} {xs:List Value} (h:W.heap[b]? = some (.cells x t (f1,f2))) (ho:W.ownsRow base e size v n xs) (ht:t≠e) (hg:W.grownBy W' v.ownBlock) :
 W'.heap[b]? = some (.cells x t (f1,f2)):=by
 refine (hg.block b (Array.getElem?_eq_some_iff.1 h).1 ?_).trans h
 rcases ho.2 with ⟨rfl,_⟩ | ⟨g,cap,cur,rfl,_,hgb,_⟩
 ·intro e;cases e
 ·intro e
  cases e
  rw [h] at hgb
  cases hgb
  exact ht rfl
theorem spot_cells {W:World} {b t:Nat} {x y z:Int} (h:W.heap[b]? = some (.cells #[.int .i64 x,.int .i64 y,.int .i64 z] t (0,0))) :
 W.cell? ⟨b,0,none⟩=some (.int .i64 x)∧W.cell? ⟨b,1,none⟩=some (.int .i64 y)∧W.cell? ⟨b,2,none⟩=some (.int .i64 z)∧∀i,W.frozen? ⟨b,i,none⟩=false :=
 ⟨by simp [World.cell?,h],by simp [World.cell?,h],by simp [World.cell?,h],fun i=>by simp [World.frozen?,h]⟩
theorem rows_snoc {r:Rul} {T:ByteArray} {e:Bool} {L whole:List (Nat × Nat × Int × Int)} {f a n:Nat} {q:Nat × Nat × Int × Int} (hq:rowAt1 r T e a n=q) (h:L++rowsFrom r T e (f+1) a n=whole) :
 ((q.2.2.2=2∨q.2.2.2=3)→(L++[(a,q.1-a,q.2.2.1,q.2.2.2)])++rowsFrom r T e f q.1 q.2.1=whole)∧(¬ (q.2.2.2=2∨q.2.2.2=3)→L++[(a,q.1-a,q.2.2.1,q.2.2.2)]=whole):=by
 rw [rowsFrom,hq] at h
 constructor
 ·intro hc
  rw [if_pos hc] at h
  rw [List.append_assoc,List.singleton_append];exact h
 ·intro hc
  rw [if_neg hc] at h
  exact h
theorem flat_snoc (l:List RowV) (r:RowV):(l++[r]).flatMap rcell=l.flatMap rcell++rcell r:=by
 rw [List.flatMap_append,List.flatMap_singleton]
theorem list_new (W:World) (t:Nat) (xs:List Value):∀j u,xs[j]? = some u→(W.alloc (.cells xs.toArray t)).cell? ((⟨W.heap.size,0,none⟩:Addr).add j)=some u:=fun j u hj=>by
 have h:=World.cell?_alloc_mark W xs.toArray t (0,0) j
 rw [Addr.add_lit,Nat.zero_add]
 refine h.trans ?_
 simpa using hj
theorem rows_more {W:World} {base:Nat} {v:Value} {lev:Int} {L:List (Nat × Nat × Int × Int)} {x:Nat × Nat × Int × Int} {c:Int} (hc:c=((x.2.1:Nat):Int)) (h:W.ownsRow base 24 5 v (L.length+1) ((L.map (mkRow lev)).flatMap rcell++[.int .i64 x.1,.int .i64 c,.int .u8 lev,.int .i64 x.2.2.1,.int .i8 x.2.2.2])) :
 OwnR W base v ((L++[x]).map (mkRow lev)):=by
 subst hc
 unfold OwnR
 rw [List.length_map,List.length_append,List.map_append,List.map_singleton,flat_snoc]
 exact h
theorem spot_set {W:World} {b base n:Nat} {v:Value} {xs:List Value} {x y z:Value} (h:W.heap[b]? = some (.cells #[x,y,z] 146 (0,0))) (ho:W.ownsRow base 24 5 v n xs) (x' y' z':Value) :
 (((W.setCell ⟨b,0,none⟩ x').setCell ⟨b,1,none⟩ y').setCell ⟨b,2,none⟩ z').heap[b]? = some (.cells #[x',y',z'] 146 (0,0))∧(((W.setCell ⟨b,0,none⟩ x').setCell ⟨b,1,none⟩ y').setCell ⟨b,2,none⟩ z').ownsRow base 24 5 v n xs:=by
 have k1:=set_at (i:=0) h x'
 have k2:=set_at (i:=1) k1 y'
 have k3:=set_at (i:=2) k2 z'
 have o1:=row_other (i:=0) (u:=x') ho (ne_row ho h (by decide))
 have o2:=row_other (i:=1) (u:=y') o1 (ne_row o1 k1 (by decide))
 exact⟨k3,row_other (i:=2) (u:=z') o2 (ne_row o2 k2 (by decide))⟩
theorem own_lowR {W:World} {base base':Nat} {v:Value} {l m:List RowV} (h:OwnR W base v l) (e:l=m) (hb:base'≤base):OwnR W base' v m:=e▸ownsRow_base h hb
def lenOf:Value→Nat
 | .slice _ n _=>n
 | _=>0
set_option maxRecDepth 100000 in
set_option maxHeartbeats 1000000 in
theorem Rows_any (line:ByteArray) (wd tab want:Int) (wideA join raw:Bool) (w:World) (hT:T8 w) (hD:DB w) :
 Calls Tryz.prog 70 #[.string line,.int .i64 wd,lookV tab want wideA join raw] w fun e w' =>
  ∃pa cap,e=.returned (.slice pa (rowsI line wd tab want wideA raw).length cap)∧OwnR w' w.heap.size (.slice pa (rowsI line wd tab want wideA raw).length cap) (rowsI line wd tab want wideA raw)∧Below w.heap.size w w':=by
 obtain⟨i5,hi5,hz5,ha5,hb5⟩:=info_parts (Tryz.info_row)
 obtain⟨X,hX⟩:∃X,rowsI line wd tab want wideA raw=X:=⟨_,rfl⟩
 rw [hX]
 unfold rowsI at hX
 have HX:=lh hX
 clear hX
 have hb0:Below w.heap.size w (w.alloc (.cells #[.int .i64 tab,.bool wideA,.int .i8 want,.bool join,.bool raw] 26)):=(Below.refl _ _).alloc (Nat.le_refl _) _
 have hx0:(w.alloc (.cells #[.int .i64 tab,.bool wideA,.int .i8 want,.bool join,.bool raw] 26)).heap[w.heap.size]? = some (.cells #[.int .i64 tab,.bool wideA,.int .i8 want,.bool join,.bool raw] 26 (0,0)):=World.alloc_heap_new w _
 have hT1:=hT.below rfl hb0
 have hD1:=hD.below hb0
 go_enter Tryz.func70,Tryz.ntmps70
 go_upto_region 1 with (fail)
 generalize w.alloc (.cells #[.int .i64 tab,.bool wideA,.int .i8 want,.bool join,.bool raw] 26)=W0 at hb0 hx0 hT1 hD1 ⊢
 have l0:W0.cell? ⟨w.heap.size,0,none⟩=some (.int .i64 tab):=by simp [World.cell?,hx0]
 have l1:W0.cell? ⟨w.heap.size,1,none⟩=some (.bool wideA):=by simp [World.cell?,hx0]
 have l2:W0.cell? ⟨w.heap.size,2,none⟩=some (.int .i8 want):=by simp [World.cell?,hx0]
 have l3:W0.cell? ⟨w.heap.size,3,none⟩=some (.bool join):=by simp [World.cell?,hx0]
 have l4:W0.cell? ⟨w.heap.size,4,none⟩=some (.bool raw):=by simp [World.cell?,hx0]
 have hs0:w.heap.size<W0.heap.size:=(Array.getElem?_eq_some_iff.1 hx0).1
 have HB0:=lh hb0
 have HT1:=lh hT1
 have HD1:=lh hD1
 clear hb0 hx0 hT1 hD1 hT hD
 by_cases g1:wd<1
 ·have hX:=HX.out
  rw [if_pos (.inl g1)] at hX
  subst hX
  go_wp2_with (fail)
  go_ret
  exact⟨none,0,rfl,OwnR.nil _ _,HB0.out⟩
 by_cases g2:wd > 1024
 ·have hX:=HX.out
  rw [if_pos (.inr (.inl g2))] at hX
  subst hX
  go_wp2_with (fail)
  go_ret
  exact⟨none,0,rfl,OwnR.nil _ _,HB0.out⟩
 by_cases g3:(line.size:Int) > 65536
 ·have hX:=HX.out
  rw [if_pos (.inr (.inr (by omega)))] at hX
  subst hX
  go_wp2_with (fail)
  go_ret
  exact⟨none,0,rfl,OwnR.nil _ _,HB0.out⟩
 have hX:=HX.out
 rw [if_neg (by rintro (h | h | h) <;> omega)] at hX
 have HX2:=lh hX
 clear hX HX
 have HC:=lh (counted_any line (by omega) wd tab want wideA join raw W0 HT1.out)
 go_upto_region 4 with (go_at_call 95;refine HC.out.mono ?_;rintro e w1 ⟨F,wa,wk,rfl,hF,hfil,hrd,hb1⟩)
 have m0:=cell_bl hb1 hs0 l0
 have m2:=cell_bl hb1 hs0 l2
 have m4:=cell_bl hb1 hs0 l4
 have f0:=hfil.cells.1
 have hbel1:Below w.heap.size w w1:=HB0.out.trans (hb1.mono (by omega))
 have hs1:w.heap.size<w1.heap.size:=Nat.lt_of_lt_of_le hs0 hb1.size
 have hT2:=HT1.out.below rfl hb1
 have hD2:=HD1.out.below hb1
 have hTz:(textOf line).size≤65536:=by have:=(textOf_pieces line).1;omega
 have hFlt:=hfil.lt
 have HB1:=lh hbel1
 have HT2:=lh hT2
 have HD2:=lh hD2
 have HFIL:=lh hfil
 have HRD:=lh hrd
 clear l0 l1 l2 l3 l4 hb1 hbel1 hT2 hD2 hfil hrd HB0 HT1 HD1 HC
 obtain⟨lev,hlev⟩:∃lev,levelI (textOf line) want raw=lev:=⟨_,rfl⟩
 have HLEV:=lh hlev
 have HRU:Hid (∀(W:World),Below w1.heap.size w1 W→Calls Tryz.prog 76 #[.string (textOf line)] W fun e w'=>∃a c,e=.returned (.slice a (runesI (textOf line)).length c)∧Rd .i32 w' a (runesI (textOf line))∧(runesI (textOf line)).length≤c∧c≤9223372036854775807∧Below w1.heap.size w1 w') :=
  lh (fun W hb=>(Runes_any (textOf line) (by omega) W).mono fun e w' ⟨a,c,h1,h2,h3,h4,h5⟩=>⟨a,c,h1,h2,h3,h4,hb.trans (h5.mono hb.size)⟩)
 have HVL:Hid (∀(a:Option Addr) (n c:Nat) (W:World),Below w1.heap.size w1 W→(runesI (textOf line)).length=n→Rd .i32 W a (runesI (textOf line))→n≤c→c≤9223372036854775807 →
  Calls Tryz.prog 77 #[.slice a n c,.int .i8 want] W fun e w'=>∃la lc,e=.returned (.tuple #[.slice la n lc,.int .u8 (visualI (runesI (textOf line)) want).2])∧Below w1.heap.size w1 w') :=
  lh (fun a n c W hb hl h1 h2 h3=>(VLevels_any a (runesI (textOf line)) n c want W hl h1 (by have:=runesI_len (textOf line);omega) h2 h3).mono fun e w' ⟨la,lc,h1,_,_,h4⟩=>⟨la,lc,h1,hb.trans (h4.mono hb.size)⟩)
 clear hlev
 have HK:=lh (fun (W:World) (hb:Below w1.heap.size w1 W)=>(⟨cell_bl hb hs1 m2,cell_bl hb hFlt f0⟩:W.cell? ⟨w.heap.size,2,none⟩=some (.int .i8 want)∧W.cell? ⟨F,0,none⟩=some (.string (textOf line))))
 go_upto_if 30 with (fail)
 go_cut [8] (fun v wx=>v=.int .u8 lev∧Below w1.heap.size w1 wx)
 case first =>
  have hlev:=HLEV.out
  unfold levelI at hlev
  cases raw with
  | true =>
    rw [if_pos rfl] at hlev
    subst hlev
    clear HLEV
    go_wp2_with (fail)
    go_meet
    exact⟨rfl,Below.refl _ _⟩
  | false =>
    rw [if_neg (by decide)] at hlev
    have HLE:=lh hlev
    clear hlev HLEV
    go_wp2_with (fail)
    go_region_held3 (fun w'=>w'.cell? ⟨w.heap.size,2,none⟩=some (.int .i8 want)∧w'.cell? ⟨F,0,none⟩=some (.string (textOf line))∧Below w1.heap.size w1 w')
     ((refine (fun hh=>⟨(HK.out _ hh).1,(HK.out _ hh).2,hh⟩) ?_;repeat (first | assumption | exact Below.refl _ _ | refine Below.drew ?_)))
     (first | (go_at_call 76;refine (HRU.out _ (by repeat (first | assumption | exact Below.refl _ _ | refine Below.drew ?_))).mono ?_;rintro e w2 ⟨a,c,rfl,hr1,hr2,hr3,hr4⟩) | (go_at_call 77;refine (HVL.out _ _ _ _ (by repeat (first | assumption | exact Below.refl _ _ | refine Below.drew ?_)) rfl hr1 hr2 hr3).mono ?_;rintro e w3 ⟨la,lc,rfl,hv1⟩))
    go_wp2_with (fail)
    go_meet
    exact⟨by rw [←HLE.out],hv1⟩
 case rest =>
  obtain⟨rfl,hbc⟩:=hcut
  have hT3:=HT2.out.below rfl hbc
  have hD3:=HD2.out.below hbc
  have hfil3:=HFIL.out.below hbc hFlt
  have hrd3:=HRD.out.below hbc
  have hb3:=HB1.out.trans (hbc.mono (by omega))
  have hs3:F<wc.heap.size:=Nat.lt_of_lt_of_le hFlt hbc.size
  have hs4:w.heap.size<wc.heap.size:=Nat.lt_of_lt_of_le hs1 hbc.size
  have HT3:=lh hT3
  have HD3:=lh hD3
  have HFIL3:=lh hfil3
  have HRD3:=lh hrd3
  have HB3:=lh hb3
  clear hT3 hD3 hfil3 hrd3 hb3 hbc m0 m2 m4 f0 HT2 HD2 HFIL HRD HB1 HRU HVL HK
  go_upto_block 0 with (fail)
  have hbx:=(Below.refl wc.heap.size wc).alloc (Nat.le_refl _) (.cells #[.int .i64 0,.int .i64 0,.int .i64 0] 146)
  have hx:=World.alloc_heap_new wc (.cells #[.int .i64 0,.int .i64 0,.int .i64 0] 146)
  generalize wc.alloc (.cells #[.int .i64 0,.int .i64 0,.int .i64 0] 146)=W3 at hbx hx ⊢
  obtain⟨whole,hwh⟩:∃whole,rowsFrom (rulI line wd tab wideA raw) (textOf line) (countI line).isSome ((textOf line).size+1) 0 0=whole:=⟨_,rfl⟩
  have hwl:whole.length≤65537:=by
   have:=rowsF_len (rulI line wd tab wideA raw) (textOf line) (countI line).isSome ((textOf line).size+1) 0 0 (Bord.zero _)
   rw [hwh] at this
   omega
  have hXw:whole.map (mkRow lev)=X:=by rw [←hwh,←HLEV.out];exact HX2.out
  have HXW:=lh hXw
  have HWH:=lh hwh
  have HBX:=lh hbx
  have HX3:=lh hx
  clear hXw hwh hbx hx HX2 HLEV
  go_wp2_with (fail)
  go_loopw [9,10] (fun u9 u10 wx=>∃(a n f b:Nat) (L:List (Nat × Nat × Int × Int)),wc.heap.size≤b∧u10=.pointer (some ⟨b,0,none⟩)∧wx.heap[b]? = some (.cells #[.int .i64 a,.int .i64 n,.int .i64 0] 146 (0,0))∧OwnR wx wc.heap.size u9 (L.map (mkRow lev)) ∧
   Bord (textOf line) a n∧(textOf line).size<a+f∧L++rowsFrom (rulI line wd tab wideA raw) (textOf line) (countI line).isSome f a n=whole∧Below wc.heap.size wc wx) (fun u9 _ _=>65538-lenOf u9)
  case atStart=>exact⟨0,0,_,_,[],Nat.le_refl _,rfl,HX3.out,OwnR.nil _ _,Bord.zero _,Nat.lt_of_lt_of_le (Nat.lt_succ_self _) (Nat.le_add_left _ 0),HWH.out,HBX.out⟩
  case round =>
   obtain⟨a,n,f,b,L,hwb,rfl,hbx,hown,hbd,hf,heq,hbel⟩:=hrel
   obtain⟨f,rfl⟩:∃g,f=g+1:=⟨f-1,by have:=hbd.1;omega⟩
   have hLl:L.length<65537:=by
    have:=congrArg List.length heq
    rw [List.length_append,rowsFrom,List.length_cons] at this
    omega
   have hown1:wr.ownsRow wc.heap.size 24 5 u9 L.length ((L.map (mkRow lev)).flatMap rcell):=by
    have h:=hown
    unfold OwnR at h
    rwa [List.length_map] at h
   obtain⟨pa,cap,hpa,_,_⟩:=own_slice hown1
   subst hpa
   obtain⟨q,hq⟩:∃q,rowAt1 (rulI line wd tab wideA raw) (textOf line) (countI line).isSome a n=q:=⟨_,rfl⟩
   have hrow:=row_any F a n (textOf line) wa (whereI line).length wk (countI line).isSome (rulI line wd tab wideA raw) want join wr (HT3.out.below rfl hbel) (HD3.out.below hbel) (HFIL3.out.below hbel hs3) (HRD3.out.below hbel) rfl hbd (textOf_len line) (by omega) (by show 0≤wd;omega) (by show wd≤1024;omega)
   rw [hq] at hrow
   obtain⟨b1,b2,b3,b4⟩:=rowI_bord (rulI line wd tab wideA raw) (textOf line) (countI line).isSome a n hbd
   rw [hq] at b1 b2 b3 b4
   obtain⟨s1,s2⟩:=rows_snoc hq heq
   have hbt:=b1.1
   obtain⟨qa,qn,qw,qe⟩:=q
   dsimp only at hrow b1 b2 b3 b4 s1 s2 hbt
   obtain⟨x0,x1,x2,xf⟩:=spot_cells hbx
   have hblt:=(Array.getElem?_eq_some_iff.1 hbx).1
   have hsz:=hbel.size
   have HROW:=lh hrow
   have HBX:=lh hbx
   have HOWN:=lh hown1
   have HBEL:=lh hbel
   have HB1:=lh b1
   have HB33:=lh b3
   have HB4:=lh b4
   have HS1:=lh s1
   have HS2:=lh s2
   clear hrow hbx hown hown1 hbel b1 b3 b4 s1 s2 hq heq hbd HFIL3 HRD3 HT3 HD3 HX3
   go_upto_region 10 with (go_at_call 96;refine HROW.out.mono ?_;rintro e w4 ⟨rfl,hb4⟩)
   have hb5:Below wr.heap.size wr (w4.alloc (.cells #[.int .i64 qa,.int .i64 qn,.int .i64 qw] 146)):=hb4.alloc hb4.size _
   have hy:=World.alloc_heap_new w4 (.cells #[.int .i64 qa,.int .i64 qn,.int .i64 qw] 146)
   have hz4:=hb4.size
   generalize w4.alloc (.cells #[.int .i64 qa,.int .i64 qn,.int .i64 qw] 146)=W5 at hb5 hy ⊢
   have hbx5:W5.heap[b]? = some (.cells #[.int .i64 a,.int .i64 n,.int .i64 0] 146 (0,0)):=(hb5.block b hblt).trans HBX.out
   have hown5:=ownsRow_keep HOWN.out hb5
   have hbel5:=HBEL.out.trans (hb5.mono hsz)
   obtain⟨z0,z1,z2,zf⟩:=spot_cells hbx5
   obtain⟨y0,y1,y2,yf⟩:=spot_cells hy
   have hs5:=hbel5.size
   have hsub:(qa:Int)-(a:Int)=((qa-a:Nat):Int):=by omega
   have HSUB:=lh hsub
   have HBX5:=lh hbx5
   have HY:=lh hy
   have HOWN5:=lh hown5
   have HBEL5:=lh hbel5
   clear hb4 hb5 hy hbx5 hown5 hbel5 hsub x0 x1 x2 xf hblt HBX HOWN HBEL HROW hz4
   go_upto_region 11 with (at_builtin;refine wpList_append_own_at _ rfl _ _ 112 rfl wc.heap.size 24 i5 (.agg #[.int .i64 0,.int .i64 0,.int .u8 0,.int .i64 0,.int .i8 0]) 5 40 Tryz.underlying112 hi5 hz5 ha5 hb5 rfl (by decide) _ L.length _ rfl (HOWN5.out.alloc _) ⟨W5.heap.size,0,none⟩ 1 1 [.int .i64 a,.int .i64 ((qa:Int)-a),.int .u8 lev,.int .i64 qw,.int .i8 qe] rfl rfl (list_new _ _ _) (by simp [Value.oneCell']) (by unfold maxLen;omega) (by omega) (by simp;omega) ?_;intro v' w6 ho hg _ hl)
   have hbelA:=HBEL5.out.alloc hs5 (.cells #[.int .i64 a,.int .i64 ((qa:Int)-a),.int .u8 lev,.int .i64 qw,.int .i8 qe] 24)
   have hbA:(W5.alloc (.cells #[.int .i64 a,.int .i64 ((qa:Int)-a),.int .u8 lev,.int .i64 qw,.int .i8 qe] 24)).heap[b]? = some (.cells #[.int .i64 a,.int .i64 n,.int .i64 0] 146 (0,0)) :=
    (((Below.refl W5.heap.size W5).alloc (Nat.le_refl _) _).block b (Array.getElem?_eq_some_iff.1 HBX5.out).1).trans HBX5.out
   have hyA:(W5.alloc (.cells #[.int .i64 a,.int .i64 ((qa:Int)-a),.int .u8 lev,.int .i64 qw,.int .i8 qe] 24)).heap[w4.heap.size]? = some (.cells #[.int .i64 qa,.int .i64 qn,.int .i64 qw] 146 (0,0)) :=
    (((Below.refl W5.heap.size W5).alloc (Nat.le_refl _) _).block _ (Array.getElem?_eq_some_iff.1 HY.out).1).trans HY.out
   have hownA:=HOWN5.out.alloc (.cells #[.int .i64 a,.int .i64 ((qa:Int)-a),.int .u8 lev,.int .i64 qw,.int .i8 qe] 24)
   have hb6:=far_kept hbA hownA (by decide) hg
   have hy6:=far_kept hyA hownA (by decide) hg
   have hbel6:Below wc.heap.size wc w6:=hbelA.grown hg (by simp;omega) (fun k hk=>(hownA.lt k hk).1)
   have ho6:=rows_more (x:=(a,qa-a,qw,qe)) HSUB.out ho
   have hs6:=hbel6.size
   have HB6:=lh hb6
   have HBEL6:=lh hbel6
   have HO6:=lh ho6
   have HY6:=lh hy6
   clear hbelA hbA hyA hownA hb6 hy6 hbel6 ho6 ho hg hl HBX5 HY HOWN5 HBEL5 z0 z1 z2 zf y0 y1 y2 yf
   obtain⟨z0,z1,z2,zf⟩:=spot_cells HB6.out
   obtain⟨y0,y1,y2,yf⟩:=spot_cells HY6.out
   by_cases hc:qe=2∨qe=3
   ·have hcut:=HS1.out hc
    have hlt:=HB33.out hc
    have HS:=lh hcut
    clear hcut HS1 HS2 HB33 HB4
    have hnext:(textOf line).size<qa+f:=by omega
    rcases hc with rfl | rfl
    ·go_upto_region 14 with (fail)
     obtain⟨h7,o7⟩:=spot_set HB6.out HO6.out (.int .i64 qa) (.int .i64 qn) (.int .i64 0)
     have hb7:=((HBEL6.out.setCell (p:=⟨b,0,none⟩) hwb (.int .i64 qa)).setCell (p:=⟨b,1,none⟩) hwb (.int .i64 qn)).setCell (p:=⟨b,2,none⟩) hwb (.int .i64 0)
     generalize ((w6.setCell ⟨b,0,none⟩ (.int .i64 qa)).setCell ⟨b,1,none⟩ (.int .i64 qn)).setCell ⟨b,2,none⟩ (.int .i64 0)=W7 at h7 o7 hb7 ⊢
     have HO6L:=HO6
     clear z0 z1 z2 zf y0 y1 y2 yf HB6 HBEL6 HO6 HY6
     obtain⟨z0,z1,z2,zf⟩:=spot_cells h7
     have hs7:=hb7.size
     have H7:=lh h7
     have O7:=lh o7
     have HB7:=lh hb7
     clear h7 o7 hb7
     obtain⟨hq1,hq2⟩:=hlt
     have hll:(L++[(a,qa-a,qw,2)]).length=L.length+1:=by simp
     have HLL:=lh hll
     clear hll
     go_wp2_with (fail)
     go_roundw
     case rel=>exact⟨qa,qn,f,W7.heap.size,_,hs7,rfl,World.alloc_heap_new W7 _,World.ownsRow.alloc O7.out _,HB1.out,hnext,HS.out,HB7.out.alloc hs7 _⟩
     case measure =>
      have hv:lenOf v'=L.length+1:=by
       obtain⟨pb,cb,e,_⟩:=own_slice HO6L.out
       rw [e,List.length_map,HLL.out]
       rfl
      rw [hv]
      show 65538-(L.length+1)<65538-L.length
      omega
    ·go_upto_region 14 with (fail)
     obtain⟨h7,o7⟩:=spot_set HB6.out HO6.out (.int .i64 qa) (.int .i64 qn) (.int .i64 0)
     have hb7:=((HBEL6.out.setCell (p:=⟨b,0,none⟩) hwb (.int .i64 qa)).setCell (p:=⟨b,1,none⟩) hwb (.int .i64 qn)).setCell (p:=⟨b,2,none⟩) hwb (.int .i64 0)
     generalize ((w6.setCell ⟨b,0,none⟩ (.int .i64 qa)).setCell ⟨b,1,none⟩ (.int .i64 qn)).setCell ⟨b,2,none⟩ (.int .i64 0)=W7 at h7 o7 hb7 ⊢
     have HO6L:=HO6
     clear z0 z1 z2 zf y0 y1 y2 yf HB6 HBEL6 HO6 HY6
     obtain⟨z0,z1,z2,zf⟩:=spot_cells h7
     have hs7:=hb7.size
     have H7:=lh h7
     have O7:=lh o7
     have HB7:=lh hb7
     clear h7 o7 hb7
     obtain⟨hq1,hq2⟩:=hlt
     have hll:(L++[(a,qa-a,qw,3)]).length=L.length+1:=by simp
     have HLL:=lh hll
     clear hll
     go_wp2_with (fail)
     go_roundw
     case rel=>exact⟨qa,qn,f,W7.heap.size,_,hs7,rfl,World.alloc_heap_new W7 _,World.ownsRow.alloc O7.out _,HB1.out,hnext,HS.out,HB7.out.alloc hs7 _⟩
     case measure =>
      have hv:lenOf v'=L.length+1:=by
       obtain⟨pb,cb,e,_⟩:=own_slice HO6L.out
       rw [e,List.length_map,HLL.out]
       rfl
      rw [hv]
      show 65538-(L.length+1)<65538-L.length
      omega
   ·obtain⟨e1,e2⟩:=HB4.out hc
    have hX:(L++[(a,qa-a,qw,qe)]).map (mkRow lev)=X:=by rw [HS2.out hc];exact HXW.out
    obtain⟨pa',cap',hv',_⟩:=own_slice HO6.out
    rw [hX] at hv'
    subst hv'
    have HXX:=lh hX
    clear hX hc HS1 HS2 HB33 HB4
    have hq:qe=0∨qe=1:=by rw [e2];unfold lastEnd;split <;> simp
    clear e1 e2
    rcases hq with rfl | rfl
    ·go_wp2_with (fail)
     go_ret
     exact⟨pa',cap',rfl,own_lowR HO6.out HXX.out (by omega),HB3.out.trans (HBEL6.out.mono (by omega))⟩
    ·go_wp2_with (fail)
     go_ret
     exact⟨pa',cap',rfl,own_lowR HO6.out HXX.out (by omega),HB3.out.trans (HBEL6.out.mono (by omega))⟩
end
section
open Go.RowKit Go.Proofs Go.Shelf
attribute [local go_sem] Oper.semAt_some
theorem rc_info:(Tryz.prog.info? 90).map (fun i=>(i.zero,i.size,i.bytes))=some (some (.agg #[.int .i64 0,.int .i64 0,.int .i64 0,.int .i64 0]),4,32):=by kernel_rfl
theorem Lines3_any (s:ByteArray) (w:World) (z:Nat) (hz:w.heap.size=z) :
 Calls Tryz.prog 29 #[.string s] w fun e w'=>e=.returned (.func (.func 46) #[] #[.pointer (some ⟨z,0,none⟩)])∧Boxed w' z 9 (.string s)∧Below w.heap.size w w'∧w'.heap.size=z+1:=by
 refine (Lines_any s w).mono ?_
 rintro e w' ⟨rfl,rfl⟩
 subst hz
 exact⟨rfl,Boxed.new w _ _,(Below.refl _ _).alloc (Nat.le_refl _) _,World.size_alloc _ _⟩
def cvP (z:Nat) (b t:Nat):Prop:=b<z∨t=90
def CvS (B C O Y z:Nat) (wd tab want:Int) (wideA join raw:Bool) (lo hi:Int) (W0 X0:World) (out:List Rc) (y:Int) (X:World):Prop :=
 (∃v,Boxed X O 91 v∧X.ownsRow (z+5) 90 4 v out.length (out.flatMap rcE.enc))∧Boxed X Y 3 (.int .i64 y)∧Boxed X B 3 (.int .i64 wd) ∧
   X.heap[B+1]? = some (.cells #[.int .i64 tab,.bool wideA,.int .i8 want,.bool join,.bool raw] 26 (0,0))∧X.heap[C]? = some (.cells #[.int .i64 lo,.int .i64 hi] 59 (0,0)) ∧
   Below B W0 X∧(z+5≤X0.heap.size→z+5≤X.heap.size)∧KeepsFrom (z+1) X0 X∧KpX (cvP z) B X0 X
section
variable {B C O Y z:Nat} {wd tab want:Int} {wideA join raw:Bool} {lo hi:Int} {W0 X0 X X':World} {out:List Rc} {y:Int}
theorem CvS.below (hz:B+1<z) (hC:C<z) (hO:O<z) (hY:Y<z) (hzX:z<X.heap.size) (h:CvS B C O Y z wd tab want wideA join raw lo hi W0 X0 out y X) (hb:Below X.heap.size X X'):CvS B C O Y z wd tab want wideA join raw lo hi W0 X0 out y X':=by
 obtain⟨⟨v,a1,a2⟩,a3,a4,a5,a6,a7,a8,a9,a10⟩:=h
 have hbl:∀{b:Nat} {o:Obj},X.heap[b]? = some o→X'.heap[b]? = some o:=fun h=>(hb.block _ (Array.getElem?_eq_some_iff.1 h).1).trans h
 have hg:X.grownBy X' none:=⟨hb.os,hb.tape,hb.output,hb.size,fun k hk _=>hb.block k hk⟩
 refine⟨⟨v,hbl a1,row_keptC a2 hg (fun k e=>by cases e)⟩,hbl a3,hbl a4,hbl a5,hbl a6,a7.trans (hb.mono (by omega)),fun h=>Nat.le_trans (a8 h) hb.size,a9.trans ((keeps_below hb).from _),a10.trans ⟨hb.mono (by omega),fun b cs t f _ ho=>hbl ho⟩⟩
theorem CvS.setY (hz:B+1<z) (hC:C<Y) (hO:O<Y) (hY:Y<z) (hB:B+1<Y) (hOB:B<O) (h:CvS B C O Y z wd tab want wideA join raw lo hi W0 X0 out y X) (y':Int):CvS B C O Y z wd tab want wideA join raw lo hi W0 X0 out y' (X.setCell ⟨Y,0,none⟩ (.int .i64 y')):=by
 obtain⟨⟨v,a1,a2⟩,a3,a4,a5,a6,a7,a8,a9,a10⟩:=h
 have hg:=grownBy_setCell' X Y (.int .i64 y')
 have hne:some Y≠v.ownBlock:=fun e=>by
  have:=a2.lt Y e.symm
  omega
 have hk:∀{b:Nat} {o:Obj},b≠Y→X.heap[b]? = some o→(X.setCell ⟨Y,0,none⟩ (.int .i64 y')).heap[b]? = some o:=fun hb ho=>(hg.block _ (Array.getElem?_eq_some_iff.1 ho).1 (fun e=>by cases e;exact hb rfl)).trans ho
 have hbY:Below B X (X.setCell ⟨Y,0,none⟩ (.int .i64 y')):=(Below.refl _ _).setCell (p:=⟨Y,0,none⟩) (by show B≤Y;omega) _
 refine⟨⟨v,hk (by omega) a1,a2.kept hg (.inr hne.symm)⟩,set_at (i:=0) a3 _,hk (by omega) a4,hk (by omega) a5,hk (by omega) a6,a7.trans hbY,fun h=>Nat.le_trans (a8 h) (KeepsOthers.setCell _ _ _).size,a9.trans ((KeepsOthers.setCell _ _ _).from _),a10.trans ⟨hbY,fun b cs t f hb ho=>hk (fun e=>hb (.inl (by omega))) ho⟩⟩
theorem CvS.more {v v':Value} {r:Rc} (hz:B+1<z) (hC:C<z) (hO:O<z) (hY:Y<z) (hOC:O≠C) (hOY:O≠Y) (hOB:B+1<O) (h:CvS B C O Y z wd tab want wideA join raw lo hi W0 X0 out y X) (hv:Boxed X O 91 v) (ho:X.ownsRow (z+5) 90 4 v out.length (out.flatMap rcE.enc)) (hg:X.grownBy X' v.ownBlock)
 (ho':X'.ownsRow (z+5) 90 4 v' (out.length+1) (out.flatMap rcE.enc++rcE.enc r)):CvS B C O Y z wd tab want wideA join raw lo hi W0 X0 (out++[r]) y (X'.setCell ⟨O,0,none⟩ v')∧Boxed X' O 91 v:=by
 obtain⟨_,a3,a4,a5,a6,a7,a8,a9,a10⟩:=h
 have hlt:=ho.lt
 have hk1:∀{b:Nat} {o:Obj},some b≠v.ownBlock→X.heap[b]? = some o→X'.heap[b]? = some o:=fun hb ho=>(hg.block _ (Array.getElem?_eq_some_iff.1 ho).1 hb).trans ho
 have hlow:∀{b:Nat},b<z→some b≠v.ownBlock:=fun hb e=>by have:=hlt _ e.symm;omega
 have hg2:=grownBy_setCell' X' O v'
 have hk2:∀{b:Nat} {o:Obj},b≠O→X'.heap[b]? = some o→(X'.setCell ⟨O,0,none⟩ v').heap[b]? = some o:=fun hb ho=>(hg2.block _ (Array.getElem?_eq_some_iff.1 ho).1 (fun e=>by cases e;exact hb rfl)).trans ho
 have hO1:Boxed X' O 91 v:=hk1 (hlow hO) hv
 have hlt':=ho'.lt
 have hne:some O≠v'.ownBlock:=fun e=>by have:=hlt' _ e.symm;omega
 have hb1:Below B X X':=(Below.refl B X).grown hg (by have:=(Array.getElem?_eq_some_iff.1 a4).1;omega) (fun k hk=>by have:=hlt k hk;omega)
 have hbY:Below B X' (X'.setCell ⟨O,0,none⟩ v'):=(Below.refl _ _).setCell (p:=⟨O,0,none⟩) (by show B≤O;omega) _
 have hke:∀j o,v.ownBlock=some j→X.heap[j]? = some o→o.isCells=true∧∃cs t f,o=.cells cs t f∧t=90:=fun j o hj ho2=>by
  rcases ho.2 with ⟨h1,_⟩ | ⟨g,cap',cur,h1,_,hgb,_⟩
  ·rw [h1] at hj;cases hj
  ·rw [h1] at hj
   cases hj
   rw [hgb] at ho2
   cases ho2
   exact⟨rfl,_,_,_,rfl,rfl⟩
 have K8:KeepsOthers X X':=KeepsOthers.of_grownBy hg (fun j o hj ho2=>(hke j o hj ho2).1)
 refine⟨⟨⟨v',set_at (i:=0) hO1 _,?_⟩,hk2 (by omega) (hk1 (hlow (by omega)) a3),hk2 (by omega) (hk1 (hlow (by omega)) a4),hk2 (by omega) (hk1 (hlow (by omega)) a5),hk2 (by omega) (hk1 (hlow (by omega)) a6),(a7.trans hb1).trans hbY,fun h=>Nat.le_trans (a8 h) (Nat.le_trans hg.size (KeepsOthers.setCell _ _ _).size),
  (a9.trans (K8.from _)).trans ((KeepsOthers.setCell _ _ _).from _),(a10.trans ⟨hb1,fun b cs t f hb ho2=>hk1 (fun e=>?_) ho2⟩).trans ⟨hbY,fun b cs t f hb ho2=>hk2 (fun e=>hb (.inl (by omega))) ho2⟩⟩,hO1⟩
 ·have:=ho'.kept hg2 (.inr hne.symm)
  rw [List.length_append,List.flatMap_append,List.flatMap_singleton]
  exact this
 ·obtain⟨_,cs',t',f',e1,e2⟩:=hke b _ e.symm ho2
  cases e1
  exact hb (.inr e2)
def CvB (B C O Y z:Nat) (wd tab want:Int) (wideA join raw:Bool) (lo hi:Int) (W0:World) (out:List Rc) (y:Int) (X:World):Prop :=
 (∃v,Boxed X O 91 v∧X.ownsRow (z+5) 90 4 v out.length (out.flatMap rcE.enc))∧Boxed X Y 3 (.int .i64 y)∧Boxed X B 3 (.int .i64 wd) ∧
   X.heap[B+1]? = some (.cells #[.int .i64 tab,.bool wideA,.int .i8 want,.bool join,.bool raw] 26 (0,0))∧X.heap[C]? = some (.cells #[.int .i64 lo,.int .i64 hi] 59 (0,0))∧Below B W0 X
theorem CvB.start (h:CvB B C O Y z wd tab want wideA join raw lo hi W0 out y X):CvS B C O Y z wd tab want wideA join raw lo hi W0 X out y X :=
 ⟨h.1,h.2.1,h.2.2.1,h.2.2.2.1,h.2.2.2.2.1,h.2.2.2.2.2,fun h=>h,KeepsFrom.refl _ _,Below.refl _ _,fun b cs t f _ ho=>ho⟩
theorem CvS.base (h:CvS B C O Y z wd tab want wideA join raw lo hi W0 X0 out y X):CvB B C O Y z wd tab want wideA join raw lo hi W0 out y X:=⟨h.1,h.2.1,h.2.2.1,h.2.2.2.1,h.2.2.2.2.1,h.2.2.2.2.2.1⟩
theorem CvS.and {out':List Rc} {y':Int} (h:CvS B C O Y z wd tab want wideA join raw lo hi W0 X0 out y X) (k:CvS B C O Y z wd tab want wideA join raw lo hi W0 X out' y' X'):CvS B C O Y z wd tab want wideA join raw lo hi W0 X0 out' y' X' :=
 ⟨k.1,k.2.1,k.2.2.1,k.2.2.2.1,k.2.2.2.2.1,k.2.2.2.2.2.1,fun h0=>k.2.2.2.2.2.2.1 (h.2.2.2.2.2.2.1 h0),h.2.2.2.2.2.2.2.1.trans k.2.2.2.2.2.2.2.1,h.2.2.2.2.2.2.2.2.trans k.2.2.2.2.2.2.2.2⟩
theorem CvB.stays (h1:B+1<z) (h2:C<z) (h3:O<z) (h4:Y<z) (h5:B≤W0.heap.size) (h:CvB B C O Y z wd tab want wideA join raw lo hi W0 out y X) {row:Option Nat} (hg:X.grownBy X' row)
 (hrow:∀r,row=some r→(z+1+2≤r∧r<z+1+2+2)∨(z+1≤r∧∃o:Obj,X.heap[r]? = some o∧o.isCells=false)):CvB B C O Y z wd tab want wideA join raw lo hi W0 out y X':=by
 obtain⟨⟨v,a1,a2⟩,a3,a4,a5,a6,a7⟩:=h
 have hk:∀k,k<z→∀o,X.heap[k]? = some o→X'.heap[k]? = some o:=fun k hk o ho=>(hg.block k (Array.getElem?_eq_some_iff.1 ho).1 (fun e=>by rcases hrow k e.symm with h | ⟨h,_⟩ <;> omega)).trans ho
 have hne:v.ownBlock=none∨v.ownBlock≠row:=by
  rcases a2.2 with ⟨e1,_⟩ | ⟨g,cap',cur,e1,e2,e3,_⟩
  ·exact .inl (by rw [e1];rfl)
  ·refine .inr (fun e=>?_)
   rw [e1] at e
   rcases hrow g e.symm with h | ⟨_,o,ho,hc⟩
   ·omega
   ·rw [e3] at ho
    cases ho
    cases hc
 exact⟨⟨v,hk _ h3 _ a1,a2.kept hg hne⟩,hk _ h4 _ a3,hk _ (by omega) _ a4,hk _ (by omega) _ a5,hk _ h2 _ a6,a7.grown hg (Nat.le_trans h5 a7.size) (fun k e=>by rcases hrow k e with h | ⟨h,_⟩ <;> omega)⟩
theorem own_kpx {P:Nat→Nat→Prop} {n₀ base e k n:Nat} {v:Value} {xs:List Value} (h:X.ownsRow base e k v n xs) (hk:KpX P n₀ X X') (hP:∀b,base≤b→¬ P b e):X'.ownsRow base e k v n xs :=
 ⟨h.1,h.2.imp id fun ⟨g,cap,cur,e1,e2,e3,rest⟩=>⟨g,cap,cur,e1,e2,hk.2 g _ _ _ (hP g e2) e3,rest⟩⟩
end
end
end Go.Proofs.YtlbclfmbejjneaaGreatDoor
