/- Part 14 (merged by a program): lemmas of no further condition than each states. -/
import Derived.Deep.CutRange
import Derived.Test.YtlbclfmbejjneaaGreatDoorR11
import Derived.Test.YtlbclfmbejjneaaGreatDoorR13
namespace Go.Proofs.YtlbclfmbejjneaaGreatDoor
set_option linter.unusedVariables false
set_option linter.unusedSimpArgs false
section
open Go.RowKit Go.Proofs Go.Shelf
attribute [local go_sem] Oper.semAt_some
theorem countF_snoc {L:List (Nat × ByteArray)} {ks:List Int} (h:∀R,countF (L++R) ks=countF R (ks.drop L.length)) (p:Nat × ByteArray) (hk:L.length<ks.length) :
 ∀R,countF ((L++[p])++R) ks=if ith ks L.length=2 then some p.1 else countF R (ks.drop (L++[p]).length):=fun R=>by
 rw [List.append_assoc,h,List.singleton_append,List.length_append,List.drop_eq_getElem_cons hk]
 have:ith ks L.length=ks[L.length]:=by unfold ith;rw [List.getD_eq_getElem?_getD,List.getElem?_eq_getElem hk];rfl
 rw [countF,this]
 rfl
theorem own_mono {w:World} {base base' e size n:Nat} {v:Value} {xs:List Value} (h:w.ownsRow base e size v n xs) (hb:base'≤base):w.ownsRow base' e size v n xs :=
 ⟨h.1,h.2.imp id fun ⟨g,cap,cur,h1,h2,h3⟩=>⟨g,cap,cur,h1,Nat.le_trans hb h2,h3⟩⟩
theorem blk_ne {W:World} {a b t t':Nat} {x y:Array Value} {f f':Nat × Nat} (ha:W.heap[a]? = some (.cells x t f)) (hb:W.heap[b]? = some (.cells y t' f')) (ht:t≠t'):a≠b:=by
 rintro rfl
 rw [ha] at hb
 cases hb
 exact ht rfl
abbrev filC (text:ByteArray) (wa:Option Addr) (wn wc:Nat) (e:Bool) (wd tab:Int) (wideA:Bool) (want:Int) (join raw:Bool):Array Value :=
 #[.string text,.slice wa wn wc,.bool e,.int .i64 wd,.int .i64 tab,.bool wideA,.int .i8 want,.bool join,.bool raw]
def CnA (W:World) (m F P:Nat) (line text:ByteArray) (wa:Option Addr) (wc:Nat) (e:Bool) (wd tab:Int) (wideA:Bool) (want:Int) (join raw:Bool):Prop :=
 W.heap[F]? = some (.cells (filC text wa (whereI line).length wc e wd tab wideA want join raw) 144 (0,0))∧Boxed W P 140 (.pointer (some ⟨F,0,none⟩))∧OutAt .i8 22 W m wa wc (whereI line)
section
variable {W W':World} {m F P:Nat} {line text:ByteArray} {wa:Option Addr} {wc:Nat} {e:Bool} {wd tab:Int} {wideA:Bool} {want:Int} {join raw:Bool}
theorem CnA.kept (h:CnA W m F P line text wa wc e wd tab wideA want join raw) {row:Option Nat} (hg:W.grownBy W' row) (hrow:∀k,row=some k→∃o,W.heap[k]? = some o∧o.isCells=false):CnA W' m F P line text wa wc e wd tab wideA want join raw:=by
 obtain⟨h1,h2,h3⟩:=h
 have hne:∀{b:Nat} {x:Array Value} {t:Nat} {f:Nat × Nat},W.heap[b]? = some (.cells x t f)→some b≠row:=fun hb e=>by
  obtain⟨o,ho,hc⟩:=hrow _ e.symm
  rw [hb] at ho
  cases ho;cases hc
 refine⟨(hg.block _ (Array.getElem?_eq_some_iff.1 h1).1 (hne h1)).trans h1,h2.kept hg (hne h2),World.ownsRow.kept h3 hg ?_⟩
 rcases h3.2 with ⟨h,_⟩ | ⟨g,cap,cur,h,_,hgb,_⟩
 ·rw [h];exact .inl rfl
 ·rw [h]
  refine .inr fun e'=>?_
  exact hne hgb e'
theorem CnA.below (h:CnA W m F P line text wa wc e wd tab wideA want join raw) (hb:Below W.heap.size W W'):CnA W' m F P line text wa wc e wd tab wideA want join raw :=
 h.kept (row:=none) ⟨hb.os,hb.tape,hb.output,hb.size,fun q hq _=>hb.block q hq⟩ (fun k e=>by cases e)
theorem CnA.other (h:CnA W m F P line text wa wc e wd tab wideA want join raw) {n i t:Nat} {x:Array Value} (hn:W.heap[n]? = some (.cells x t (0,0))) (h1:t≠144) (h2:t≠140) (h3:t≠22) (v:Value) :
 CnA (W.setCell ⟨n,i,none⟩ v) m F P line text wa wc e wd tab wideA want join raw :=
 ⟨box_other h.1 (blk_ne h.1 hn h1.symm),box_other h.2.1 (blk_ne h.2.1 hn h2.symm),row_other h.2.2 (ne_row h.2.2 hn h3)⟩
theorem CnA.fil (h:CnA W m F P line text wa wc e wd tab wideA want join raw) (t:ByteArray):CnA ((W.setCell ⟨F,0,none⟩ (.string t)).setCell ⟨F,2,none⟩ (.bool true)) m F P line t wa wc true wd tab wideA want join raw:=by
 obtain⟨h1,h2,h3⟩:=h
 have hne:=blk_ne h1 h2 (by decide)
 have k1:=set_at (i:=0) h1 (.string t)
 have k2:=set_at (i:=2) k1 (.bool true)
 exact⟨k2,box_other (box_other h2 hne.symm) hne.symm,row_other (row_other h3 (ne_row h3 h1 (by decide))) (ne_row (row_other h3 (ne_row h3 h1 (by decide))) k1 (by decide))⟩
theorem CnA.cells (h:CnA W m F P line text wa wc e wd tab wideA want join raw):W.cell? ⟨F,0,none⟩=some (.string text)∧W.cell? ⟨F,1,none⟩=some (.slice wa (whereI line).length wc)∧W.cell? ⟨F,2,none⟩=some (.bool e)∧W.cell? ⟨P,0,none⟩=some (.pointer (some ⟨F,0,none⟩)):=by
 obtain⟨h1,h2,_⟩:=h
 exact⟨by simp [World.cell?,h1],by simp [World.cell?,h1],by simp [World.cell?,h1],h2.cell⟩
theorem CnA.frz (h:CnA W m F P line text wa wc e wd tab wideA want join raw) (i:Nat):W.frozen? ⟨F,i,none⟩=false:=by simp [World.frozen?,h.1]
end
def CnR (w W0:World) (line:ByteArray) (wd tab:Int) (wideA:Bool) (want:Int) (join raw:Bool) (v7:Value) (wx:World):Prop :=
 ∃F P wa wc,v7=.pointer (some ⟨P,0,none⟩)∧W0.heap.size≤F∧W0.heap.size≤P∧F<wx.heap.size∧P<wx.heap.size∧CnA wx W0.heap.size F P line line wa wc false wd tab wideA want join raw∧Below W0.heap.size W0 wx
theorem cn_made {w W0 X:World} {line:ByteArray} {wa:Option Addr} {wc F P:Nat} {wd tab:Int} {wideA:Bool} {want:Int} {join raw:Bool} (hb:Below W0.heap.size W0 X) (hF:W0.heap.size≤F) (hP:W0.heap.size≤P)
 (h1:X.heap[F]? = some (.cells (filC line wa (whereI line).length wc false wd tab wideA want join raw) 144 (0,0))) (h2:Boxed X P 140 (.pointer none)) (h3:OutAt .i8 22 X W0.heap.size wa wc (whereI line)) :
 CnR w W0 line wd tab wideA want join raw (.pointer (some ⟨P,0,none⟩)) (X.setCell ⟨P,0,none⟩ (.pointer (some ⟨F,0,none⟩))):=by
 have hne:=blk_ne h1 h2 (by decide)
 refine⟨F,P,wa,wc,rfl,hF,hP,?_,?_,⟨box_other h1 hne,?_,row_other h3 (ne_row h3 h2 (by decide))⟩,hb.setCell (p:=⟨P,0,none⟩) hP _⟩
 ·rw [World.size_setCell];exact (Array.getElem?_eq_some_iff.1 h1).1
 ·rw [World.size_setCell];exact (Array.getElem?_eq_some_iff.1 h2).1
 ·exact set_at h2 _
theorem cn_lie {w W0 X:World} {line:ByteArray} {wa:Option Addr} {wc F P:Nat} {wd tab:Int} {wideA:Bool} {want:Int} {join raw:Bool} (hb:Below W0.heap.size W0 X) (hF:W0.heap.size≤F) (hP:W0.heap.size≤P)
 (h1:X.heap[F]? = some (.cells (filC line wa (whereI line).length wc false wd tab wideA want join raw) 144 (0,0))) (h2:Boxed X P 140 (.pointer (some ⟨F,0,none⟩))) (h3:OutAt .i8 22 X W0.heap.size wa wc (whereI line)) :
 CnR w W0 line wd tab wideA want join raw (.pointer (some ⟨P,0,none⟩)) X :=
 ⟨F,P,wa,wc,rfl,hF,hP,(Array.getElem?_eq_some_iff.1 h1).1,(Array.getElem?_eq_some_iff.1 h2).1,⟨h1,h2,h3⟩,hb⟩
theorem two_alloc (w:World) (o1 o2:Obj):((w.alloc o1).alloc o2).heap[w.heap.size]? = some o1∧((w.alloc o1).alloc o2).heap[w.heap.size+1]? = some o2∧Below w.heap.size w ((w.alloc o1).alloc o2):=by
 refine⟨?_,?_,((Below.refl _ _).alloc (Nat.le_refl _) _).alloc (by simp) _⟩
 ·have h1:=World.alloc_heap_new w o1
  have h2:=((Below.refl (w.alloc o1).heap.size (w.alloc o1)).alloc (Nat.le_refl _) o2).block w.heap.size (by rw [World.size_alloc];omega)
  exact h2.trans h1
 ·have h1:=World.alloc_heap_new (w.alloc o1) o2
  rw [World.size_alloc] at h1
  exact h1
theorem box_kept {A B:World} {b t:Nat} {v:Value} (h:Boxed A b t v) {row:Option Nat} (hg:A.grownBy B row) (hrow:∀k,row=some k→∃o,A.heap[k]? = some o∧o.isCells=false):Boxed B b t v :=
 h.kept hg (fun e=>by
  obtain⟨o,ho,hc⟩:=hrow _ e.symm
  rw [show A.heap[_]? = _ from h] at ho
  cases ho;cases hc)
def CntI (w W0:World) (m n F P:Nat) (line:ByteArray) (wa:Option Addr) (cp:Nat) (wd tab:Int) (wideA:Bool) (want:Int) (join raw:Bool) (pre:List (PieceOf line)) (W:World):Prop :=
 Boxed W n 3 (.int .i64 pre.length)∧Boxed W (n+1) 9 (.string line)∧CnA W m F P line line wa cp false wd tab wideA want join raw∧(∀R,countF (pre.map (·.1)++R) (whereI line)=countF R ((whereI line).drop pre.length))∧Below m W0 W
def CntX (W0:World) (m F P:Nat) (line:ByteArray) (wa:Option Addr) (cp:Nat) (wd tab:Int) (wideA:Bool) (want:Int) (join raw:Bool) (c:Code) (pre:List (PieceOf line)) (W:World):Prop :=
 c=.exit 0∧∃e,(∀R,countF (pre.map (·.1)++R) (whereI line)=some e)∧CnA W m F P line (line.extract 0 e) wa cp true wd tab wideA want join raw∧Below m W0 W
set_option maxRecDepth 100000 in
set_option maxHeartbeats 1000000 in
theorem counted_any (line:ByteArray) (hs:line.size≤2097152) (wd tab want:Int) (wideA join raw:Bool) (w:World) (hT:T8 w) :
 Calls Tryz.prog 95 #[.string line,.int .i64 wd,lookV tab want wideA join raw] w fun e w' =>
  ∃F wa wc,e=.returned (.pointer (some ⟨F,0,none⟩))∧w.heap.size≤F∧FilW w' F (textOf line) wa (whereI line).length wc (countI line).isSome ⟨whereI line,wd,tab,wideA,raw⟩ want join∧Rd .i8 w' wa (whereI line)∧Below w.heap.size w w':=by
 refine (callsIn_wide (n:=4)).1 ?_
 refine callsIn_of_wp_marks Tryz.func95 rfl trivial ?_ rfl
 simp only [Tryz.ntmps95,List.size_toArray,List.length_cons,List.length_nil,Nat.reduceAdd,Nat.reduceSub,Array.replicate_succ,Array.replicate_zero,List.push_toArray,List.append_toArray,List.nil_append,List.cons_append]
 gi_upto_region 1 with (fail)
 have hb0:Below w.heap.size w ((w.alloc (.cells #[.string line] 9)).alloc (.cells #[.int .i64 tab,.bool wideA,.int .i8 want,.bool join,.bool raw] 26)):=((Below.refl _ _).alloc (Nat.le_refl _) _).alloc (by simp) _
 have hx0:Boxed ((w.alloc (.cells #[.string line] 9)).alloc (.cells #[.int .i64 tab,.bool wideA,.int .i8 want,.bool join,.bool raw] 26)) w.heap.size 9 (.string line):=(Boxed.new w _ _).alloc _
 have hL0:((w.alloc (.cells #[.string line] 9)).alloc (.cells #[.int .i64 tab,.bool wideA,.int .i8 want,.bool join,.bool raw] 26)).heap[w.heap.size+1]? = some (.cells #[.int .i64 tab,.bool wideA,.int .i8 want,.bool join,.bool raw] 26 (0,0)):=by
  have:=World.alloc_heap_new (w.alloc (.cells #[.string line] 9)) (.cells #[.int .i64 tab,.bool wideA,.int .i8 want,.bool join,.bool raw] 26)
  rw [World.size_alloc] at this
  exact this
 have hs0:((w.alloc (.cells #[.string line] 9)).alloc (.cells #[.int .i64 tab,.bool wideA,.int .i8 want,.bool join,.bool raw] 26)).heap.size=w.heap.size+2:=by rw [World.size_alloc,World.size_alloc]
 generalize (w.alloc (.cells #[.string line] 9)).alloc (.cells #[.int .i64 tab,.bool wideA,.int .i8 want,.bool join,.bool raw] 26)=W0 at hb0 hx0 hL0 hs0 ⊢
 have hT0:=hT.below rfl hb0
 have l0:=hx0.cell
 have l1:W0.cell? ⟨w.heap.size+1,0,none⟩=some (.int .i64 tab):=by simp [World.cell?,hL0]
 have l2:W0.cell? ⟨w.heap.size+1,1,none⟩=some (.bool wideA):=by simp [World.cell?,hL0]
 have l3:W0.cell? ⟨w.heap.size+1,2,none⟩=some (.int .i8 want):=by simp [World.cell?,hL0]
 have l4:W0.cell? ⟨w.heap.size+1,3,none⟩=some (.bool join):=by simp [World.cell?,hL0]
 have l5:W0.cell? ⟨w.heap.size+1,4,none⟩=some (.bool raw):=by simp [World.cell?,hL0]
 have HK:=lh (fun (W:World) (hb:Below W0.heap.size W0 W)=>(⟨cell_bl hb (by omega) l0,cell_bl hb (by omega) l1,cell_bl hb (by omega) l2,cell_bl hb (by omega) l3,cell_bl hb (by omega) l4,cell_bl hb (by omega) l5⟩ :
  W.cell? ⟨w.heap.size,0,none⟩=some (.string line)∧W.cell? ⟨w.heap.size+1,0,none⟩=some (.int .i64 tab)∧W.cell? ⟨w.heap.size+1,1,none⟩=some (.bool wideA)∧W.cell? ⟨w.heap.size+1,2,none⟩=some (.int .i8 want)∧W.cell? ⟨w.heap.size+1,3,none⟩=some (.bool join)∧W.cell? ⟨w.heap.size+1,4,none⟩=some (.bool raw)))
 have HWH:Hid (∀W,Below W0.heap.size W0 W→Calls Tryz.prog 118 #[.string line] W fun e w'=>∃a c,e=.returned (.slice a (whereI line).length c)∧OutAt .i8 22 w' W0.heap.size a c (whereI line)∧Below W0.heap.size W0 w'∧Below W.heap.size W w'∧W.heap.size≤w'.heap.size∧W0.heap.size≤w'.heap.size) :=
  lh fun W hb=>(Where_any line W (hT0.below rfl hb) hs).mono fun e w' ⟨a,c,h1,h2,h3⟩=>⟨a,c,h1,own_mono h2 hb.size,hb.trans (h3.mono hb.size),h3,h3.size,Nat.le_trans hb.size h3.size⟩
 have HB0:=lh hb0
 have HT0:=lh hT0
 have HS0:=lh hs0
 clear hb0 hx0 hL0 hT0 hT hs0
 refine wpIn_wide.2 ?_
 go_cut [7] from 10 to 16 (fun v7 wx=>CnR w W0 line wd tab wideA want join raw v7 wx)
 case first =>
  go_region_held3 (fun w'=>w'.cell? ⟨w.heap.size,0,none⟩=some (.string line)∧w'.cell? ⟨w.heap.size+1,0,none⟩=some (.int .i64 tab)∧w'.cell? ⟨w.heap.size+1,1,none⟩=some (.bool wideA)∧w'.cell? ⟨w.heap.size+1,2,none⟩=some (.int .i8 want)∧w'.cell? ⟨w.heap.size+1,3,none⟩=some (.bool join)∧w'.cell? ⟨w.heap.size+1,4,none⟩=some (.bool raw)∧Below W0.heap.size W0 w')
   ((refine (fun hh=>⟨(HK.out _ hh).1,(HK.out _ hh).2.1,(HK.out _ hh).2.2.1,(HK.out _ hh).2.2.2.1,(HK.out _ hh).2.2.2.2.1,(HK.out _ hh).2.2.2.2.2,hh⟩) ?_;repeat (first | assumption | exact Below.refl _ _ | refine Below.drew ?_ | refine Below.alloc ?_ (by first | omega | (simp;omega)) _ | refine Below.setCell ?_ (by first | exact Nat.le_refl _ | (dsimp only;omega) | (simp;done) | (simp;omega)) _)))
   (first | (go_at_call 118;refine (HWH.out _ (by repeat (first | assumption | exact Below.refl _ _ | refine Below.drew ?_ | refine Below.alloc ?_ (by first | omega | (simp;omega)) _))).mono ?_;rintro e w1 ⟨a,c,rfl,hO,hbw,hbx,hsz,hsz0⟩;try (have hP0:w1.cell? ⟨W0.heap.size,0,none⟩=some (.pointer none):=(hbx.cell (p:=⟨W0.heap.size,0,none⟩) (by simp)).trans (World.cell?_alloc_mark W0 #[.pointer none] 140 (0,0) 0);have hP1:w1.frozen? ⟨W0.heap.size,0,none⟩=false:=(hbx.frozen (p:=⟨W0.heap.size,0,none⟩) (by simp)).trans (Boxed.new W0 140 (.pointer none)).frozen;have hPa:∀o,(w1.alloc o).cell? ⟨W0.heap.size,0,none⟩=some (.pointer none):=fun o=>cell_bl ((Below.refl w1.heap.size w1).alloc (Nat.le_refl _) o) (cell_lt hP0) hP0;have hPf:∀o,(w1.alloc o).frozen? ⟨W0.heap.size,0,none⟩=false:=fun o=>(((Below.refl w1.heap.size w1).alloc (Nat.le_refl _) o).frozen (p:=⟨W0.heap.size,0,none⟩) (cell_lt hP0)).trans hP1)))
  ·go_wp2_with (fail)
   go_meet
   case rel =>
    obtain⟨t1,t2,t3⟩:=two_alloc w1 (.cells (filC line a (whereI line).length c false wd tab wideA want join raw) 144 (0,0)) (.cells #[.pointer (some ⟨w1.heap.size,0,none⟩)] 140 (0,0))
    exact cn_lie (hbw.trans (t3.mono hsz0)) hsz0 (by omega) t1 t2 (hO.keep t3)
  ·go_wp2_with (fail)
   go_meet
   case rel =>
    obtain⟨t1,t2,t3⟩:=two_alloc w1 (.cells #[.pointer (some ⟨w1.heap.size+1,0,none⟩)] 140 (0,0)) (.cells (filC line a (whereI line).length c false wd tab wideA want join raw) 144 (0,0))
    exact cn_lie (hbw.trans (t3.mono hsz0)) (by omega) hsz0 t2 t1 (hO.keep t3)
  ·go_wp2_with (fail)
   go_meet
   case rel =>
    have t3:=(Below.refl w1.heap.size w1).alloc (Nat.le_refl _) (.cells (filC line a (whereI line).length c false wd tab wideA want join raw) 144 (0,0))
    have hbP:Boxed w1 W0.heap.size 140 (.pointer none):=(hbx.block W0.heap.size (by simp)).trans (Boxed.new W0 140 (.pointer none))
    exact cn_made (hbw.trans (t3.mono hsz0)) hsz0 (Nat.le_refl _) (World.alloc_heap_new w1 _) (hbP.alloc _) (hO.keep t3)
 case rest =>
  obtain⟨F,P,wa,cp,rfl,hF,hP,hFl,hPl,hA,hbc⟩:=hcut
  have hs0:=HS0.out
  have c0:wc.cell? ⟨w.heap.size,0,none⟩=some (.string line):=cell_bl hbc (by omega) l0
  have hlt0:w.heap.size<wc.heap.size:=cell_lt c0
  have HA:=lh hA
  have HBC:=lh hbc
  have HL0:=lh l0
  clear hA hbc l0 l1 l2 l3 l4 l5 HWH HK hs0
  gi_wp2_with (fail)
  refine⟨trivial,?_⟩
  refine (callsIn_wide.2 (All_any line _)).mono ?_
  rintro e' W2 ⟨rfl,hW2⟩
  obtain⟨n,hn⟩:∃n,wc.heap.size=n:=⟨_,rfl⟩
  have hWw:W2.heap.size=n+2∧Boxed W2 n 3 (.int .i64 0)∧Boxed W2 (n+1) 9 (.string line)∧Below n wc W2:=by
   obtain⟨t1,t2,t3⟩:=two_alloc wc (.cells #[.int .i64 0] 3 (0,0)) (.cells #[.string line] 9 (0,0))
   rw [hW2,←hn]
   exact⟨by rw [World.size_alloc,World.size_alloc],t1,t2,t3⟩
  rw [World.size_alloc,hn]
  clear hW2
  obtain⟨hsz2,hbI,hbS,hb2⟩:=hWw
  unfold itV
  gi_wp2_with (fail)
  obtain⟨m,hm⟩:∃m,W0.heap.size=m:=⟨_,rfl⟩
  have hT0:=HT0.out
  have h3:Tryz.lays197_ren.g 3<m:=by have:=cell_lt (hT0.1 0 (by omega));omega
  have h4:Tryz.lays197_ren.g 4<m:=by have:=cell_lt (hT0.2 0 (by omega)).1;omega
  have hmn:m≤n:=by have:=HBC.out.size;omega
  have hb02:Below m W0 W2:=by rw [←hm];exact HBC.out.trans (hb2.mono (by omega))
  have hT2:=hT0.below hm.symm hb02
  have hA2:=HA.out.below (by rw [hn];exact hb2)
  rw [hm] at hA2 hF hP
  have hlm:w.heap.size<m:=by have:=HS0.out;omega
  have HT:=lh hT2
  clear hT0 HA HBC
  refine wpIn_rangeFunc_ownF (F:=Fence.wide) rfl (by omega) (gf:=54) (lb:=#[.pointer (some ⟨n+1,0,none⟩)]) rfl trivial (enters_of Tryz.func54 (by kernel_rfl) rfl)
   (pieces_stops 3 (by omega) (n+1) m line (by omega) h3 h4 W2 (by omega) hbS.cell hT2) (fun h k=>KpB.trans h k) (kpB_put (w:=W2) (by omega)) (Below.refl _ _) (fun _=>rfl)
   (CntI w W0 m n F P line wa cp wd tab wideA want join raw) (CntX W0 m F P line wa cp wd tab wideA want join raw) ?hI ?hIx ?h0
   (fun x=>{ tmps:=#[.string line,.int .i64 wd,lookV tab want wideA join raw,.pointer (some ⟨w.heap.size,0,none⟩),undef,.pointer (some ⟨w.heap.size+1,0,none⟩),.pointer none,.pointer (some ⟨P,0,none⟩),.pointer (some ⟨n,0,none⟩),.int .i64 x.1.1,u10,u11,u12,u13,u14,u15,u16,.string line,.func (.func 54) #[] #[.pointer (some ⟨n+1,0,none⟩)],.int .i64 x.1.1,.string x.1.2,undef,undef,undef,undef,undef,undef,undef,undef,undef,undef,undef,undef,undef,undef,undef,undef,undef,undef,undef,undef],defers:=[] }) ?assign ?body ?done ?stop
  case hI =>
   rintro pre A B row ⟨h1,h2,h3,h4,h5⟩ hg hrow
   refine⟨?_,?_,h3.kept hg (fun k e=>(hrow k e).2),h4,h5.grown hg (by have:=h5.size;omega) (fun k e=>by have:=(hrow k e).1;omega)⟩
   ·exact box_kept h1 hg (fun k e=>(hrow k e).2)
   ·exact box_kept h2 hg (fun k e=>(hrow k e).2)
  case hIx =>
   rintro c pre A B row ⟨h0,e,h1,h3,h5⟩ hg hrow
   exact⟨h0,e,h1,h3.kept hg (fun k e=>(hrow k e).2),h5.grown hg (by have:=h5.size;omega) (fun k e=>by have:=(hrow k e).1;omega)⟩
  case h0=>exact⟨hbI,hbS,hA2,fun R=>by simp,hb02⟩
  case assign =>
   intro l x W K hK
   gi_wp2_with (fail)
   exact hK
  case body =>
   rintro l pre x W ⟨h1,h2,h3,h4,h5⟩ hlt
   obtain⟨at',hat⟩:∃a,x.1.1=a:=⟨_,rfl⟩
   obtain⟨k,hk⟩:∃k,pre.length=k:=⟨_,rfl⟩
   have hx:=x.2
   rw [hat] at hx
   have hat2:at'≤line.size:=by omega
   simp only [hat]
   rw [hk] at h1 hlt h4
   have hkl:k<(whereI line).length:=by rw [whereI_len];exact hlt
   have hkz:k<2097152:=by have:=pieces_len line;omega
   obtain⟨G,hG,hmG,hGl,hcell,_⟩:=h3.2.2.at k hkl
   subst hG
   obtain⟨q,hq⟩:∃q,ith (whereI line) k=q:=⟨_,rfl⟩
   rw [hq] at hcell
   obtain⟨d0,d1,d2,d3⟩:=h3.cells
   have f0:=h3.frz 0
   have f2:=h3.frz 2
   have ci:=h1.cell
   have fi:=h1.frozen
   have cl:W.cell? ⟨w.heap.size,0,none⟩=some (.string line):=cell_bl h5 (by omega) HL0.out
   have hsn:=countF_snoc (L:=pre.map (·.1)) (ks:=whereI line) (by rw [List.length_map,hk];exact h4) x.1 (by rw [List.length_map,hk];exact hkl)
   rw [List.length_map,hk,hq,hat] at hsn
   obtain⟨N,hN⟩:∃N,(whereI line).length=N:=⟨_,rfl⟩
   rw [hN] at hkl d1
   have HN:=lh hN
   have H1:=lh h1
   have H2:=lh h2
   have H3:=lh h3
   have H5:=lh h5
   have HX:=lh hx
   have HSN:=lh hsn
   have HK:=lh hk
   have HLT:=lh hlt
   clear h1 h2 h3 h4 h5 hx hsn hat hk hlt hq hN hbI hbS hb2 hb02 hT2 hA2 c0 hlt0 hFl hPl hsz2
   gi_wp2_with (fail)
   refine wpIn_region_quiet_r (by kernel_rfl) (by kernel_rfl) (fun _ _ h=>h) ?_
   repeat (go_big_quiet_step (fail))
   refine wpQuiet_nil ?_
   intro _ hw'
   obtain⟨nq,hw''⟩:=hw'
   subst hw''
   by_cases e2:q=2
   ·subst e2
    have hsn:=fun R=>(HSN.out R).trans (if_pos rfl)
    have HE:=lh hsn
    have hFP:F≠P:=blk_ne H3.out.1 H3.out.2.1 (by decide)
    have hFw:F≠w.heap.size:=by omega
    clear hsn HSN
    gi_wp2_with (fail)
    obtain⟨S,hS1,hS2⟩:∃S:World→Prop,(∀w',S w'→w'.cell? ⟨P,0,none⟩=some (.pointer (some ⟨F,0,none⟩))∧w'.cell? ⟨w.heap.size,0,none⟩=some (.string line)) ∧
     ∀w',w'.cell? ⟨P,0,none⟩=some (.pointer (some ⟨F,0,none⟩))→w'.cell? ⟨w.heap.size,0,none⟩=some (.string line)→S w':=⟨fun w'=>w'.cell? ⟨P,0,none⟩=some (.pointer (some ⟨F,0,none⟩))∧w'.cell? ⟨w.heap.size,0,none⟩=some (.string line),fun _ h=>h,fun _ a b=>⟨a,b⟩⟩
    have kp1:∀p:WIn S,p.w.cell? ⟨P,0,none⟩=some (.pointer (some ⟨F,0,none⟩)):=fun p=>(hS1 _ p.h).1
    have kp2:∀p:WIn S,p.w.cell? ⟨w.heap.size,0,none⟩=some (.string line):=fun p=>(hS1 _ p.h).2
    have HS:=lh hS2
    have hne:Nonempty (WIn S):=⟨⟨W,hS2 _ d3 cl⟩⟩
    clear hS1 hS2
    refine wpIn_region_seg S [7,2] (by kernel_rfl) (by kernel_rfl) (fun _ _ _ _ h=>h) (fun _ _ h=>h) (HS.out _ d3 cl) ?_
    simp only [segH,List.take_succ_cons,List.take_zero,List.drop_succ_cons,List.drop_zero]
    repeat (go_big_quiet_step (fail))
    refine wpQuiet_nil ?_
    intro K hK
    have HKK:=lh hK
    clear hK
    go_wp2_with (fail)
    refine HKK.out _ _ (HS.out _ ((World.cell?_setCell_far _ _ _ _ hFP).trans d3) ((World.cell?_setCell_far _ _ _ _ hFw).trans cl)) ?_
    clear HKK
    repeat (go_big_quiet_step (fail))
    refine wpQuiet_nil ?_
    intro K hK
    have HKK:=lh hK
    clear hK
    have d2':((W.drewN nq).drew.setCell ⟨F,0,none⟩ (.string (line.extract 0 at'))).cell? ⟨F,2,none⟩=some (.bool false):=(World.cell?_setCell_other _ _ _ _ (by simp)).trans d2
    have f2':((W.drewN nq).drew.setCell ⟨F,0,none⟩ (.string (line.extract 0 at'))).frozen? ⟨F,2,none⟩=false:=by rw [World.frozen?_setCell];exact f2
    go_wp2_with (fail)
    refine HKK.out _ _ (HS.out _ ((World.cell?_setCell_far _ _ _ _ hFP).trans ((World.cell?_setCell_far _ _ _ _ hFP).trans d3)) ((World.cell?_setCell_far _ _ _ _ hFw).trans ((World.cell?_setCell_far _ _ _ _ hFw).trans cl))) ?_
    clear HKK d2' f2' kp1 kp2 HS hne
    refine wpQuiet_nil ?_
    have hk0:KeepsOthers W (W.drewN (nq+1)):=keeps_below (bl_drewN (Below.refl _ _) _)
    have hfin:CntX W0 m F P line (some ⟨G,0,none⟩) cp wd tab wideA want join raw (.exit 0) (pre++[x]) (((W.drewN (nq+1)).setCell ⟨F,0,none⟩ (.string (line.extract 0 at'))).setCell ⟨F,2,none⟩ (.bool true)) :=
     ⟨rfl,at',(fun R=>by rw [List.map_append,List.map_singleton];exact HE.out R),CnA.fil (W:=W.drewN (nq+1)) H3.out _,((bl_drewN H5.out (nq+1)).setCell (p:=⟨F,0,none⟩) hF _).setCell (p:=⟨F,2,none⟩) hF _⟩
    have HF:=lh hfin
    have HK0:=lh hk0
    clear hk0 hfin
    gi_wp2_with (fail)
    exact⟨(HK0.out.trans (KeepsOthers.setCell _ _ _)).trans (KeepsOthers.setCell _ _ _),HF.out⟩
   ·have hsn:=fun R=>(HSN.out R).trans (if_neg e2)
    have HE:=lh hsn
    have e3:(q==2)=false:=by rw [beq_eq_false_iff_ne];exact e2
    clear hsn HSN
    gi_wp2_with (fail)
    have hnS:n≠n+1:=by omega
    have hb9:Below m W ((W.drewN nq).setCell ⟨n,0,none⟩ (.int .i64 ((k:Int)+1))):=(bl_drewN (Below.refl m W) nq).setCell (p:=⟨n,0,none⟩) hmn _
    refine⟨(keeps_below (bl_drewN (Below.refl _ _) nq)).trans (KeepsOthers.setCell _ _ _),⟨hb9,fun v hv=>(World.cell?_setCell_far _ _ _ _ hnS).trans hv⟩,?_,box_other (W:=W.drewN nq) H2.out hnS.symm,CnA.other (W:=W.drewN nq) H3.out H1.out (by decide) (by decide) (by decide) _,fun R=>?_,H5.out.trans hb9⟩
    ·rw [List.length_append,HK.out]
     exact set_at (W:=W.drewN nq) H1.out _
    ·rw [List.map_append,List.map_singleton,HE.out R,List.length_append,List.length_append,List.length_map]
     rfl
  case done =>
   rintro D xs W hD hxs ⟨h1,h2,h3,h4,h5⟩ hK
   have hcn:countI line=none:=by
    have:=h4 []
    rw [List.append_nil,hxs] at this
    unfold countI
    rw [this]
    unfold countF
    rfl
   have d3:=h3.cells.2.2.2
   have hA:=h3.kept (grownBy_putObj' W D (.deferred none)) (fun r e=>by cases e;exact⟨_,hK,rfl⟩)
   have H5:=lh h5
   have HA:=lh hA
   have HC:=lh hcn
   clear h1 h2 h3 h4 h5 hA hcn
   gi_wp2_with (fail)
   refine⟨by simp,.inl ⟨_,_,rfl,run_takeDeferred hK,?_⟩⟩
   have hs0:=HS0.out
   refine⟨_,results_tmp rfl _ _ _,F,wa,cp,rfl,by omega,?_,OutAt.rd HA.out.2.2,?_⟩
   ·have:textOf line=line:=by unfold textOf;rw [HC.out]
    rw [this,HC.out]
    exact HA.out.1
   ·exact HB0.out.trans ((H5.out.trans (belowK_b (w:=W2) (by omega) W D _ _ hD hK rfl rfl)).mono (by omega))
  case stop =>
   rintro D c pre W hD hSp ⟨rfl,e,h1,h3,h5⟩ hK
   have hcn:countI line=some e:=by
    obtain⟨R,hR⟩:=hSp
    have:=h1 R
    rw [hR] at this
    exact this
   have d3:=h3.cells.2.2.2
   have hA:=h3.kept (grownBy_putObj' W D (.deferred none)) (fun r e=>by cases e;exact⟨_,hK,rfl⟩)
   have H5:=lh h5
   have HA:=lh hA
   have HC:=lh hcn
   clear h1 h3 h5 hA hcn
   gi_wp2_with (fail)
   refine⟨by simp,.inl ⟨_,_,rfl,run_takeDeferred hK,?_⟩⟩
   have hs0:=HS0.out
   refine⟨_,results_tmp rfl _ _ _,F,wa,cp,rfl,by omega,?_,OutAt.rd HA.out.2.2,?_⟩
   ·have:textOf line=line.extract 0 e:=by unfold textOf;rw [HC.out]
    rw [this,HC.out]
    exact HA.out.1
   ·exact HB0.out.trans ((H5.out.trans (belowK_b (w:=W2) (by omega) W D _ _ hD hK rfl rfl)).mono (by omega))
end
section
open Go.RowKit Go.Proofs Go.Shelf
attribute [local go_sem] Oper.semAt_some
def partsF (s:ByteArray):Nat→List Nat→List (Nat × ByteArray)
 | _,[]=>[]
 | a,e::t=>(a,s.extract a e)::partsF s e t
def EndsUp (z:Nat):Nat→List Nat→Prop
 | _,[]=>True
 | a,e::t=>a≤e∧e≤z∧EndsUp z e t
def KpL (bs:List Nat) (n₀:Nat) (W W':World):Prop:=Below n₀ W W'∧∀b∈bs,∀o,W.heap[b]? = some o→o.isCells=true→W'.heap[b]? = some o
theorem KpL.trans {bs:List Nat} {n₀:Nat} {A B C:World} (h:KpL bs n₀ A B) (k:KpL bs n₀ B C):KpL bs n₀ A C:=⟨h.1.trans k.1,fun b hb o ho hc=>k.2 b hb o (h.2 b hb o ho hc) hc⟩
theorem kpL_put {w:World} {bs:List Nat} {n₀:Nat} (hn:n₀≤w.heap.size) (W:World) (l:Nat) (o o':Obj) (hl:w.heap.size≤l) (h:W.heap[l]? = some o) (hc:o.isCells=false) (hw:o.isWalk=false):KpL bs n₀ W (W.putObj l o') :=
 ⟨belowK_b hn W l o o' hl h hc hw,fun b hb p hp hpc=>by
   have hne:b≠l:=fun e=>by
    subst e
    rw [h] at hp
    cases hp
    rw [hc] at hpc
    cases hpc
   exact ((grownBy_putObj' W l o').block b (Array.getElem?_eq_some_iff.1 hp).1 (fun e=>by cases e;exact hne rfl)).trans hp⟩
theorem KpL.box {bs:List Nat} {n₀:Nat} {W W':World} (h:KpL bs n₀ W W') {b t:Nat} {v:Value} (hb:b∈bs) (hx:Boxed W b t v):Boxed W' b t v:=h.2 b hb _ hx rfl
def EndsAt (W:World) (G:Nat) (es:List Nat):Prop:=∃cur t f,W.heap[G]? = some (.cells cur t f)∧∀(i e:Nat),es[i]? = some e→cur[i]? = some (.int .i64 e)
theorem EndsAt.keep {bs:List Nat} {n₀:Nat} {W W':World} {G:Nat} {es:List Nat} (h:EndsAt W G es) (hk:KpL bs n₀ W W') (hG:G∈bs):EndsAt W' G es:=by
 obtain⟨cur,t,f,h1,h2⟩:=h
 exact⟨cur,t,f,hk.2 G hG _ h1 rfl,h2⟩
theorem EndsAt.cell {W:World} {G:Nat} {es:List Nat} (h:EndsAt W G es) {i e:Nat} (hi:es[i]? = some e):W.cell? ⟨G,i,none⟩=some (.int .i64 e):=by
 obtain⟨cur,t,f,h1,h2⟩:=h
 simp [World.cell?,h1,h2 i e hi]
end
section
open Go.RowKit Go.Proofs Go.Shelf
def StaysAt {β:Type} (p m B:Nat) (J:β→World→Prop):Prop :=
 ∀s X Y row,J s X→X.grownBy Y row→(∀r,row=some r→(p≤r∧r<p+m)∨(B≤r∧∃o:Obj,X.heap[r]? = some o∧o.isCells=false))→J s Y
theorem StaysAt.grow {β:Type} {p m B:Nat} {J:β→World→Prop} (h:StaysAt p m B J) {s:β} {X Y:World} (hs:J s X) (hb:Below X.heap.size X Y):J s Y :=
 h s X Y none hs ⟨hb.os,hb.tape,hb.output,hb.size,fun k hk _=>hb.block k hk⟩ (fun r e=>by cases e)
theorem StaysAt.put {β:Type} {p m B:Nat} {J:β→World→Prop} (h:StaysAt p m B J) {s:β} {X:World} {l:Nat} {o:Obj} (o':Obj) (hs:J s X) (hl:X.heap[l]? = some o) (ho:o.isCells=false) (hB:B≤l):J s (X.putObj l o') :=
 h s X _ (some l) hs (grownBy_putObj' X l o') (fun r e=>by cases e;exact .inr ⟨hB,o,hl,ho⟩)
theorem StaysAt.cell {β:Type} {p m B:Nat} {J:β→World→Prop} (h:StaysAt p m B J) {s:β} {X:World} {k:Nat} (v:Value) (hs:J s X) (hk:p≤k∧k<p+m):J s (X.setCell ⟨k,0,none⟩ v) :=
 h s X _ (some k) hs (grownBy_setCell' X k v) (fun r e=>by cases e;exact .inl hk)
def SeqStopsC {α:Type} (m:Nat) (P:Program) (g:Nat) (lb:Array Value) (encs:α→Array Value) (Kp:World→World→Prop) (S Sp:List α→Prop) (w:World):Prop :=
 ∀(n l:Nat) (J Jx:List α→World→Prop) (W:World),Below w.heap.size w W→StaysAt W.heap.size m W.heap.size J→StaysAt W.heap.size m W.heap.size Jx →
   (∀pre x W1,J pre W1→Sp (pre++[x])→W.heap.size+m≤W1.heap.size→YieldAt Fence.wide n P l (encs x) W1 fun e W'=>KeepsFrom W.heap.size W1 W'∧((e=.returned (.bool true)∧J (pre++[x]) W'∧Kp W1 W')∨(e=.returned (.bool false)∧Jx (pre++[x]) W'))) →
   J [] W→CallsIn Fence.wide n P g (#[.func (.yield l) #[] #[]]++lb) W fun e W'=>(∃v,e=.returned v)∧((∃xs,S xs∧J xs W')∨(∃pre,Sp pre∧Jx pre W'))
theorem roundAny {n m:Nat} {P:Program} {l:Nat} {f:FuncId} {tmps:Array Value} {assign body:Code} {w:World} {R:Ending→World→Prop} (h:RoundIn Fence.wide n P l f tmps assign body w R) (k:Option Nat):RoundIn { Fence.wide with round:=k } m P l f tmps assign body w R:=⟨h.1,fun c cs _=>h.2 c cs (fun d hd=>by cases hd)⟩
section
variable {α:Type} {n m:Nat} {P:Program} {g:Operand} {ps:Array Tmp} {assign body:Code} {a:Act} {w:World}
def recC (fn:FuncId) (tmps:Array Value) (ps:Array Tmp) (assign body:Code) (D:Nat) (st:LoopState) (pe:Option Code):Loop:={ state:=st,pending:=pe,fn,tmps,params:=ps,assign,body,defers:=D }
theorem wpIn_rangeFunc_ownC {Q:Exit→Act→World→Prop} (h1:1≤n) {gf:Nat} {lb:Array Value} (hg:a.eval g=.func (.func gf) #[] lb) (hFg:Fence.wide.fn gf) (eg:∀args w,(callFunc gf args).run P w=.ok (.enter gf args) w)
 {encs:α→Array Value} {Kp:World→World→Prop} {S Sp:List α→Prop} {w0:World} (hseq:SeqStopsC m P gf lb encs Kp S Sp w0) (hKt:∀{A B C:World},Kp A B→Kp B C→Kp A C)
 (hKb:∀(W:World) (l:Nat) (o o':Obj),w.heap.size≤l→W.heap[l]? = some o→o.isCells=false→o.isWalk=false→Kp W (W.putObj l o')) (hb0:Below w0.heap.size w0 w) (hps:∀x,(encs x).size=ps.size)
 (I:List α→World→Prop) (Ix:Code→List α→World→Prop) (hI:StaysAt (w.heap.size+2) m w.heap.size I) (hIx:∀c,StaysAt (w.heap.size+2) m w.heap.size (Ix c)) (h0:I [] w) (a₁:α→Act)
 (hassign:∀(l:Nat) (x:α) (W:World) (K:Act→World→Prop),K (a₁ x) W →
   assign.wpIn (Fence.wide.inRound l) (n-1) P (Exit.then K (fun _ _ _=>False)) { tmps:=(ps.zip (encs x)).foldl (fun t (p,v)=>t.setIfInBounds p v) a.tmps,defers:=[] } W)
 (hbody:∀(l:Nat) (pre:List α) (x:α) (W:World),I pre W→Sp (pre++[x])→w.heap.size+2+m≤W.heap.size→body.wpIn (Fence.wide.inRound l) (n-1) P (ownPostG w.heap.size Kp I Ix (pre++[x]) W) (a₁ x) W)
 (hdone:∀(D:Nat) (xs:List α) (W:World),w.heap.size≤D→S xs→I xs W→W.heap[D]? = some (.deferred (some []))→Q .normal { a with defers:={ target:=.collected D,args:=#[] }::a.defers } W)
 (hstop:∀(D:Nat) (c:Code) (pre:List α) (W:World),w.heap.size≤D→Sp pre→Ix c pre W→W.heap[D]? = some (.deferred (some []))→c.wpIn Fence.wide n P Q { a with defers:={ target:=.collected D,args:=#[] }::a.defers } W) :
 (Code.rangeFunc g ps assign body).wpIn Fence.wide n P Q a w:=by
 refine wpIn_rangeFunc ?_
 intro fn hfn
 obtain⟨D,hD⟩:∃D,w.heap.size=D:=⟨_,rfl⟩
 have hent:=run_enterLoop_outer (P:=P) (w:=w) fn a.tmps ps assign body
 obtain⟨W1,hW1⟩:∃W1,(w.alloc (.deferred (some []))).alloc (.loop (recC fn a.tmps ps assign body D .ready none))=W1:=⟨_,rfl⟩
 have hz1:W1.heap.size=D+2:=by rw [←hW1,World.size_alloc,World.size_alloc,hD]
 have hL1:W1.heap[D+1]? = some (.loop (recC fn a.tmps ps assign body D .ready none)):=by
  have h:=World.alloc_heap_new (w.alloc (.deferred (some []))) (.loop (recC fn a.tmps ps assign body D .ready none))
  rw [World.size_alloc,hD,hW1] at h
  exact h
 have hK1:W1.heap[D]? = some (.deferred (some [])):=by
  have h:=Below.heap_alloc (w.alloc (.deferred (some []))) (.loop (recC fn a.tmps ps assign body D .ready none)) D (by rw [World.size_alloc];omega)
  rw [hW1] at h
  rw [h,←hD]
  exact World.alloc_heap_new w _
 have hbw:Below w.heap.size w W1:=by rw [←hW1];exact ((Below.refl _ w).alloc (Nat.le_refl _) _).alloc (by rw [World.size_alloc];omega) _
 have hI1:I [] W1:=hI.grow h0 hbw
 rw [hD] at hent hI hIx hbody hdone hstop hKb
 refine⟨D+1,[{ target:=.collected D,args:=#[] }],W1,{ target:=.fn (.func gf) lb,args:=#[.func (.yield (D+1)) #[] #[]] },W1,gf,#[.func (.yield (D+1)) #[] #[]]++lb,W1,hent.trans (by rw [←hW1];rfl),by simp only [resolve,hg];simp [go_sem],fun f' hf'=>by simp [Target.leads] at hf';subst hf';exact hFg,by simp [invoke,go_sem,eg],fun _=>h1,?_⟩
 have hst:∀(J:List α→World→Prop),StaysAt (D+2) m D J→∀(st:LoopState) (pe:Option Code),StaysAt W1.heap.size m W1.heap.size (fun pre W=>J pre W∧W.heap[D+1]? = some (.loop (recC fn a.tmps ps assign body D st pe))∧W.heap[D]? = some (.deferred (some []))):=fun J hJ st pe s X Y row hs hgr hr=>by
  have hk:∀k,k<D+2→∀o,X.heap[k]? = some o→Y.heap[k]? = some o:=fun k hk o ho=>(hgr.block k (Array.getElem?_eq_some_iff.1 ho).1 (fun e=>by rcases hr k e.symm with h | ⟨h,_⟩ <;> omega)).trans ho
  exact⟨hJ s X Y row hs.1 hgr (fun r e=>(hr r e).elim (fun h=>.inl (by omega)) (fun ⟨h,h2⟩=>.inr ⟨by omega,h2⟩)),hk _ (by omega) _ hs.2.1,hk _ (by omega) _ hs.2.2⟩
 refine (hseq (n-1) (D+1) (fun pre W=>I pre W∧W.heap[D+1]? = some (.loop (recC fn a.tmps ps assign body D .ready none))∧W.heap[D]? = some (.deferred (some [])))
  (fun pre W=>∃c,Ix c pre W∧W.heap[D+1]? = some (.loop (recC fn a.tmps ps assign body D .done (some c)))∧W.heap[D]? = some (.deferred (some []))) W1 (hb0.trans (hbw.mono hb0.size)) (hst I hI _ _)
  (fun s X Y row ⟨c,hs⟩ hgr hr=>⟨c,hst (Ix c) (hIx c) _ _ s X Y row hs hgr hr⟩) ?_ ⟨hI1,hL1,hK1⟩).mono ?_
 ·rintro pre x W ⟨hi,hl,hk⟩ hlen hsz
  have hy:=run_yield (P:=P) (args:=encs x) hl (hps x)
  refine⟨fn,_,assign,body,hy,roundIn_of_wpIn hfn (hassign _ x W _ ⟨_,run_beginRound hl rfl,?_⟩)⟩
  have hl2:(W.putObj (D+1) (.loop (recC fn a.tmps ps assign body D .busy none))).heap[D+1]? = some (.loop (recC fn a.tmps ps assign body D .busy none)):=World.putObj_heap_same (Array.getElem?_eq_some_iff.1 hl).1
  have hk2:(W.putObj (D+1) (.loop (recC fn a.tmps ps assign body D .busy none))).heap[D]? = some (.deferred (some [])):=(World.putObj_heap_other (by omega)).trans hk
  have hsz2:D+2+m≤(W.putObj (D+1) (.loop (recC fn a.tmps ps assign body D .busy none))).heap.size:=by have:=(grownBy_putObj' W (D+1) (.loop (recC fn a.tmps ps assign body D .busy none))).size;omega
  have hw2:=hKb W (D+1) _ (.loop (recC fn a.tmps ps assign body D .busy none)) (by omega) hl rfl rfl
  refine wpIn_mono (hbody _ pre x _ (hI.put _ hi hl rfl (by omega)) hlen hsz2) ?_
  rintro e a3 W3 hp
  have hkf:∀o',KeepsFrom D (W.putObj (D+1) (.loop (recC fn a.tmps ps assign body D .busy none))) W3→KeepsFrom W1.heap.size W (W3.putObj (D+1) o'):=fun o' hk3 =>
   ⟨by have h1:=(grownBy_putObj' W (D+1) (.loop (recC fn a.tmps ps assign body D .busy none))).size;have h2:=(grownBy_putObj' W3 (D+1) o').size;have h3:=hk3.size;omega,
     fun k o hk ho hc=>(World.putObj_heap_other (by omega)).trans (hk3.same k o (by omega) ((World.putObj_heap_other (by omega)).trans ho) hc)⟩
  have left:∀c,(∃v,(Instr.endRound (D+1) (some c)).run P W3=.ok v (W3.putObj (D+1) (.loop (recC fn a.tmps ps assign body D .done (some c))))∧v=.bool false)→KeepsFrom D (W.putObj (D+1) (.loop (recC fn a.tmps ps assign body D .busy none))) W3→Ix c (pre++[x]) W3 →
   ∃c',Ix c' (pre++[x]) (W3.putObj (D+1) (.loop (recC fn a.tmps ps assign body D .done (some c))))∧(W3.putObj (D+1) (.loop (recC fn a.tmps ps assign body D .done (some c)))).heap[D+1]? = some (.loop (recC fn a.tmps ps assign body D .done (some c')))∧(W3.putObj (D+1) (.loop (recC fn a.tmps ps assign body D .done (some c)))).heap[D]? = some (.deferred (some [])):=fun c _ hk3 hi3=>by
   have hl3:=hk3.same _ _ (by omega) hl2 rfl
   exact⟨c,(hIx c).put _ hi3 hl3 rfl (by omega),World.putObj_heap_same (Array.getElem?_eq_some_iff.1 hl3).1,(World.putObj_heap_other (by omega)).trans (hk3.same _ _ (Nat.le_refl _) hk2 rfl)⟩
  cases e with
  | normal =>
    obtain⟨hk3,hkp3,hi3⟩:=hp
    have hl3:=hk3.same _ _ (by omega) hl2 rfl
    exact⟨_,_,run_endRound (P:=P) none hl3,hkf _ hk3,.inl ⟨rfl,⟨hI.put _ hi3 hl3 rfl (by omega),World.putObj_heap_same (Array.getElem?_eq_some_iff.1 hl3).1,(World.putObj_heap_other (by omega)).trans (hk3.same _ _ (Nat.le_refl _) hk2 rfl)⟩,hKt (hKt hw2 hkp3) (hKb _ _ _ _ (by omega) hl3 rfl rfl)⟩⟩
  | ret =>
    obtain⟨hk3,hi3⟩:=hp
    have hr:=run_endRound (P:=P) (some .ret) (hk3.same _ _ (by omega) hl2 rfl)
    exact⟨_,_,hr,hkf _ hk3,.inr ⟨rfl,left .ret ⟨_,hr,rfl⟩ hk3 hi3⟩⟩
  | exit id =>
    obtain⟨hk3,hi3⟩:=hp
    have hr:=run_endRound (P:=P) (some (.exit id)) (hk3.same _ _ (by omega) hl2 rfl)
    exact⟨_,_,hr,hkf _ hk3,.inr ⟨rfl,left (.exit id) ⟨_,hr,rfl⟩ hk3 hi3⟩⟩
  | goto t =>
    obtain⟨hk3,hi3⟩:=hp
    have hr:=run_endRound (P:=P) (some (.goto t)) (hk3.same _ _ (by omega) hl2 rfl)
    exact⟨_,_,hr,hkf _ hk3,.inr ⟨rfl,left (.goto t) ⟨_,hr,rfl⟩ hk3 hi3⟩⟩
  | panic ch=>exact hp.elim
  | outgrown=>exact hp.elim
 ·rintro e W2 ⟨⟨v,rfl⟩,(⟨xs,hS,hi,hl,hk⟩ | ⟨pre,hSp,c,hi,hl,hk⟩)⟩
  ·exact⟨none,_,run_endLoop (P:=P) hl (fun h=>by cases h),hdone _ xs _ (Nat.le_refl _) hS (hI.put _ hi hl rfl (by omega)) ((World.putObj_heap_other (by omega)).trans hk)⟩
  ·exact⟨some c,_,run_endLoop (P:=P) hl (fun h=>by cases h),hstop _ c pre _ (Nat.le_refl _) hSp ((hIx c).put _ hi hl rfl (by omega)) ((World.putObj_heap_other (by omega)).trans hk)⟩
end
end
end Go.Proofs.YtlbclfmbejjneaaGreatDoor
