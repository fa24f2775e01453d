/- Part 44 (merged by a program): lemmas of no further condition than each states. -/
import Derived.Test.YtlmjbfncopbilaaGreatDoorK29
import Derived.Test.YtlmjbfncopbilaaGreatDoorK43
namespace Go.Proofs.YtlmjbfncopbilaaGreatDoor
set_option linter.unusedVariables false
set_option linter.unusedSimpArgs false
section
open Go.RowKit Go.Proofs Go.Shelf
attribute [local go_sem] Oper.semAt_some
structure AlS (w:World) (A P:Nat) (W:World):Prop where
 bel:Below w.heap.size w W
 lk:W.heap[A]? = some (.cells #[.int .i64 0,.bool false,.int .i8 0,.bool false,.bool false] 26 (0,0))
 rw:W.heap[P]? = some (.cells #[.int .i64 0,.int .i64 6,.int .u8 0,.int .i64 99,.int .i8 0] 24 (0,0))
theorem AlS.below {w W W':World} {A P:Nat} (h:AlS w A P W) (hb:Below W.heap.size W W'):AlS w A P W' :=
 ⟨h.bel.trans (hb.mono h.bel.size),(hb.block _ (Array.getElem?_eq_some_iff.1 h.lk).1).trans h.lk,(hb.block _ (Array.getElem?_eq_some_iff.1 h.rw).1).trans h.rw⟩
theorem AlS.drew {w W:World} {A P:Nat} (h:AlS w A P W):AlS w A P W.drew:=⟨h.bel.drew,h.lk,h.rw⟩
def AlC (A P:Nat) (W:World):Prop:=W.cell? ⟨A,0,none⟩=some (.int .i64 0)∧W.cell? ⟨A,1,none⟩=some (.bool false)∧W.cell? ⟨A,2,none⟩=some (.int .i8 0)∧W.cell? ⟨A,3,none⟩=some (.bool false)∧W.cell? ⟨A,4,none⟩=some (.bool false) ∧
 W.cell? ⟨P,0,none⟩=some (.int .i64 0)∧W.cell? ⟨P,1,none⟩=some (.int .i64 6)∧W.cell? ⟨P,2,none⟩=some (.int .u8 0)∧W.cell? ⟨P,3,none⟩=some (.int .i64 99)∧W.cell? ⟨P,4,none⟩=some (.int .i8 0)
theorem AlS.cells {w W:World} {A P:Nat} (h:AlS w A P W):AlC A P W:=by
 have h1:=h.lk
 have h2:=h.rw
 refine⟨?_,?_,?_,?_,?_,?_,?_,?_,?_,?_⟩ <;> simp [World.cell?,h1,h2]
def qMix:List St:=[⟨0,false,0⟩,⟨1,true,1⟩,⟨5,true,1⟩,⟨3,false,2⟩,⟨1,false,3⟩,⟨5,false,3⟩,⟨6,false,4⟩]
theorem ca_f0 (x y z:Value) (w:World):Sem.run Tryz.prog (Instr.field 33 (.agg #[x,y,z]) 0) w=.ok x w:=by kernel_rfl
theorem mixStops (w:World) (hT:T8 w) (hD:DB w):Calls Tryz.prog 11 #[.string ⟨#[97,215,144,215,145,98]⟩,.agg #[.int .i64 0,.int .i64 6,.int .u8 0,.int .i64 99,.int .i8 0],.agg #[.int .i64 0,.bool false,.int .i8 0,.bool false,.bool false]] w fun e w'=>∃a c,e=.returned (.slice a 7 c)∧OwnS caE 33 w' w.heap.size (.slice a 7 c) qMix∧Below w.heap.size w w':=by
 have h:=Stops_any sMix (by decide) 0 6 0 99 0 0 0 false false false w hT hD (lvB_of mix_lv) mix_lt mix_pos (smallB_of mix_small)
 rw [show stopsI (layI sMix 0 0 false false false 0 6 99) 0=qMix from mix_stops] at h
 exact h
theorem mixCells (w:World) (hT:T8 w) (hD:DB w):Calls Tryz.prog 12 #[.string ⟨#[97,215,144,215,145,98]⟩,.agg #[.int .i64 0,.int .i64 6,.int .u8 0,.int .i64 99,.int .i8 0],.agg #[.int .i64 0,.bool false,.int .i8 0,.bool false,.bool false]] w fun e w'=>∃a c,e=.returned (.slice a 4 c)∧OwnS ceE 124 w' w.heap.size (.slice a 4 c) (cellsI rMix)∧Below w.heap.size w w':=by
 have h:=Cells_any sMix (by decide) 0 6 0 99 0 0 0 false false false w hT hD (lvB_of mix_lv) (goodB_of mix_good)
 rw [show (cellsI (layI sMix 0 0 false false false 0 6 99)).length=4 from mix_len] at h
 exact h
set_option maxRecDepth 100000 in
theorem wideCells (w:World) (hT:T8 w) (hD:DB w):Calls Tryz.prog 12 #[.string ⟨#[97,228,184,150,255]⟩,.agg #[.int .i64 0,.int .i64 5,.int .u8 0,.int .i64 9,.int .i8 0],.agg #[.int .i64 0,.bool false,.int .i8 0,.bool false,.bool false]] w fun e w'=>∃a c,e=.returned (.slice a 7 c)∧OwnS ceE 124 w' w.heap.size (.slice a 7 c) (cellsI rWide)∧Below w.heap.size w w':=by
 have h:=Cells_any sWide (by decide) 0 5 0 9 0 0 0 false false false w hT hD (lvB_of wide_lv) (goodB_of wide_good)
 rw [show (cellsI (layI sWide 0 0 false false false 0 5 9)).length=7 from wide_len] at h
 exact h
theorem mixTexts (base c:Nat) (a:Option Addr) (w:World) (hO:OwnS ceE 124 w base (.slice a 4 c) (cellsI rMix)):Calls Tryz.prog 50 #[.slice a 4 c] w fun e w'=>e=.returned (.string ⟨#[97,215,145,215,144,98]⟩)∧w=w':=by
 have h:=texts_any base 4 c a (cellsI rMix) mix_len (by decide) (fun x hx=>by have:=List.all_eq_true.1 mix_short x hx;simpa using this) w hO
 rw [mix_texts] at h
 exact h
theorem wideTexts (base c:Nat) (a:Option Addr) (w:World) (hO:OwnS ceE 124 w base (.slice a 7 c) (cellsI rWide)):Calls Tryz.prog 50 #[.slice a 7 c] w fun e w'=>e=.returned (.string ⟨#[97,228,184,150,46,60,102,102,62]⟩)∧w=w':=by
 have h:=texts_any base 7 c a (cellsI rWide) wide_len (by decide) (fun x hx=>by have:=List.all_eq_true.1 wide_short x hx;simpa using this) w hO
 rw [wide_texts] at h
 exact h
theorem mixPlaceF (w:World) (hT:T8 w) (hD:DB w):Calls Tryz.prog 15 #[.string ⟨#[97,215,144,215,145,98]⟩,.agg #[.int .i64 0,.int .i64 6,.int .u8 0,.int .i64 99,.int .i8 0],.agg #[.int .i64 0,.bool false,.int .i8 0,.bool false,.bool false],.agg #[.int .i64 1,.bool false,.int .i64 0]] w fun e w'=>e=.returned (.int .i64 3)∧Below w.heap.size w w':=by
 have h:=Place_any sMix (by decide) 0 6 0 99 0 0 0 false false false 1 0 false w hT hD (lvB_of mix_lv)
 rw [show placeI (layI sMix 0 0 false false false 0 6 99) 1 false=3 from mix_place.1] at h
 exact h
theorem mixPlaceT (w:World) (hT:T8 w) (hD:DB w):Calls Tryz.prog 15 #[.string ⟨#[97,215,144,215,145,98]⟩,.agg #[.int .i64 0,.int .i64 6,.int .u8 0,.int .i64 99,.int .i8 0],.agg #[.int .i64 0,.bool false,.int .i8 0,.bool false,.bool false],.agg #[.int .i64 1,.bool true,.int .i64 0]] w fun e w'=>e=.returned (.int .i64 1)∧Below w.heap.size w w':=by
 have h:=Place_any sMix (by decide) 0 6 0 99 0 0 0 false false false 1 0 true w hT hD (lvB_of mix_lv)
 rw [show placeI (layI sMix 0 0 false false false 0 6 99) 1 true=1 from mix_place.2] at h
 exact h
theorem mixHit (w:World) (hT:T8 w) (hD:DB w):Calls Tryz.prog 14 #[.string ⟨#[97,215,144,215,145,98]⟩,.agg #[.int .i64 0,.int .i64 6,.int .u8 0,.int .i64 99,.int .i8 0],.agg #[.int .i64 0,.bool false,.int .i8 0,.bool false,.bool false],.int .i64 2] w fun e w'=>∃k,e=.returned (.agg #[.int .i64 3,.bool k,.int .i64 (-1)])∧Below w.heap.size w w':=by
 have h:=Hit_any sMix (by decide) 0 6 0 99 0 0 0 2 false false false w hT hD (lvB_of mix_lv) mix_lt mix_pos (smallB_of mix_small) (smallB_of mix_small2)
 rw [show (hitI (layI sMix 0 0 false false false 0 6 99) 0 2).a=3 from mix_hit] at h
 exact h.mono fun e w' ⟨h1,h2⟩=>⟨_,h1,h2⟩
set_option maxRecDepth 100000 in
set_option maxHeartbeats 4000000 in
theorem alive_any (w:World) (hT:T8 w) (hD:DB w) :
 Calls Tryz.prog 13 #[] w fun e w'=>e=.returned (.bool true)∧Below w.heap.size w w':=by
 have HWH:Hid (∀W,Calls Tryz.prog 49 #[.string ⟨#[97,215,144,215,145,98]⟩,.int .i64 99,.int .i8 0] W fun e w'=>e=.returned (.agg #[.int .i64 0,.int .i64 6,.int .u8 0,.int .i64 99,.int .i8 0])∧Below W.heap.size W w'):=lh fun W=>whole_any sMix 99 0 W
 have HTD:Hid (∀W,Below w.heap.size w W→T8 W∧DB W):=lh fun W h=>⟨hT.below rfl h,hD.below h⟩
 clear hT hD
 go_enter Tryz.func13,Tryz.ntmps13
 go_upto_region 2 with (fail)
 have hb1:Below w.heap.size w (w.alloc (.cells #[.int .i64 0,.bool false,.int .i8 0,.bool false,.bool false] 26)):=(Below.refl _ _).alloc (Nat.le_refl _) _
 have hx1:=World.alloc_heap_new w (.cells #[.int .i64 0,.bool false,.int .i8 0,.bool false,.bool false] 26)
 generalize w.alloc (.cells #[.int .i64 0,.bool false,.int .i8 0,.bool false,.bool false] 26)=W1 at hb1 hx1 ⊢
 obtain⟨A,hA⟩:∃A,w.heap.size=A:=⟨_,rfl⟩
 have HB1:=lh hb1
 rw [hA] at hx1 ⊢
 have HX1:=lh hx1
 have hA1:A<W1.heap.size:=(Array.getElem?_eq_some_iff.1 hx1).1
 clear hb1 hx1
 go_upto_region 3 with (go_at_call 49;refine (HWH.out _).mono ?_;rintro e w2 ⟨rfl,hb2⟩)
 have hA3:AlS w A w2.heap.size (w2.alloc (.cells #[.int .i64 0,.int .i64 6,.int .u8 0,.int .i64 99,.int .i8 0] 24)):=by
  have hba:=(Below.refl w2.heap.size w2).alloc (Nat.le_refl _) (.cells #[.int .i64 0,.int .i64 6,.int .u8 0,.int .i64 99,.int .i8 0] 24)
  have h12:=HB1.out.trans (hb2.mono HB1.out.size)
  exact⟨h12.trans (hba.mono h12.size),(hba.block A (Nat.lt_of_lt_of_le hA1 hb2.size)).trans ((hb2.block A hA1).trans HX1.out),World.alloc_heap_new w2 _⟩
 generalize w2.alloc (.cells #[.int .i64 0,.int .i64 6,.int .u8 0,.int .i64 99,.int .i8 0] 24)=W3 at hA3 ⊢
 obtain⟨P,hP⟩:∃P,w2.heap.size=P:=⟨_,rfl⟩
 rw [hP] at hA3 ⊢
 clear hb2
 have HST:Hid (∀W,AlS w A P W→Calls Tryz.prog 11 #[.string ⟨#[97,215,144,215,145,98]⟩,.agg #[.int .i64 0,.int .i64 6,.int .u8 0,.int .i64 99,.int .i8 0],.agg #[.int .i64 0,.bool false,.int .i8 0,.bool false,.bool false]] W fun e w'=>∃a c,e=.returned (.slice a 7 c)∧OwnS caE 33 w' W.heap.size (.slice a 7 c) qMix∧AlS w A P w') :=
  lh fun W h=>(mixStops W (HTD.out W h.bel).1 (HTD.out W h.bel).2).mono fun e w' ⟨a,c,h1,h2,h3⟩=>⟨a,c,h1,h2,h.below h3⟩
 have HCE:Hid (∀W,AlS w A P W→Calls Tryz.prog 12 #[.string ⟨#[97,215,144,215,145,98]⟩,.agg #[.int .i64 0,.int .i64 6,.int .u8 0,.int .i64 99,.int .i8 0],.agg #[.int .i64 0,.bool false,.int .i8 0,.bool false,.bool false]] W fun e w'=>∃a c,e=.returned (.slice a 4 c)∧OwnS ceE 124 w' W.heap.size (.slice a 4 c) (cellsI rMix)∧AlS w A P w'∧Below W.heap.size W w') :=
  lh fun W h=>(mixCells W (HTD.out W h.bel).1 (HTD.out W h.bel).2).mono fun e w' ⟨a,c,h1,h2,h3⟩=>⟨a,c,h1,h2,h.below h3,h3⟩
 have HCW:Hid (∀W,AlS w A P W→Calls Tryz.prog 12 #[.string ⟨#[97,228,184,150,255]⟩,.agg #[.int .i64 0,.int .i64 5,.int .u8 0,.int .i64 9,.int .i8 0],.agg #[.int .i64 0,.bool false,.int .i8 0,.bool false,.bool false]] W fun e w'=>∃a c,e=.returned (.slice a 7 c)∧OwnS ceE 124 w' W.heap.size (.slice a 7 c) (cellsI rWide)∧AlS w A P w') :=
  lh fun W h=>(wideCells W (HTD.out W h.bel).1 (HTD.out W h.bel).2).mono fun e w' ⟨a,c,h1,h2,h3⟩=>⟨a,c,h1,h2,h.below h3⟩
 have HPF:Hid (∀W,AlS w A P W→Calls Tryz.prog 15 #[.string ⟨#[97,215,144,215,145,98]⟩,.agg #[.int .i64 0,.int .i64 6,.int .u8 0,.int .i64 99,.int .i8 0],.agg #[.int .i64 0,.bool false,.int .i8 0,.bool false,.bool false],.agg #[.int .i64 1,.bool false,.int .i64 0]] W fun e w'=>e=.returned (.int .i64 3)∧AlS w A P w'∧Below W.heap.size W w') :=
  lh fun W h=>(mixPlaceF W (HTD.out W h.bel).1 (HTD.out W h.bel).2).mono fun e w' ⟨h1,h2⟩=>⟨h1,h.below h2,h2⟩
 have HPT:Hid (∀W,AlS w A P W→Calls Tryz.prog 15 #[.string ⟨#[97,215,144,215,145,98]⟩,.agg #[.int .i64 0,.int .i64 6,.int .u8 0,.int .i64 99,.int .i8 0],.agg #[.int .i64 0,.bool false,.int .i8 0,.bool false,.bool false],.agg #[.int .i64 1,.bool true,.int .i64 0]] W fun e w'=>e=.returned (.int .i64 1)∧AlS w A P w'∧Below W.heap.size W w') :=
  lh fun W h=>(mixPlaceT W (HTD.out W h.bel).1 (HTD.out W h.bel).2).mono fun e w' ⟨h1,h2⟩=>⟨h1,h.below h2,h2⟩
 have HHI:Hid (∀W,AlS w A P W→Calls Tryz.prog 14 #[.string ⟨#[97,215,144,215,145,98]⟩,.agg #[.int .i64 0,.int .i64 6,.int .u8 0,.int .i64 99,.int .i8 0],.agg #[.int .i64 0,.bool false,.int .i8 0,.bool false,.bool false],.int .i64 2] W fun e w'=>∃k,e=.returned (.agg #[.int .i64 3,.bool k,.int .i64 (-1)])∧AlS w A P w') :=
  lh fun W h=>(mixHit W (HTD.out W h.bel).1 (HTD.out W h.bel).2).mono fun e w' ⟨k,h1,h2⟩=>⟨k,h1,h.below h2⟩
 have HW2:Hid (∀W,AlS w A P W→Calls Tryz.prog 49 #[.string ⟨#[97,228,184,150,255]⟩,.int .i64 9,.int .i8 0] W fun e w'=>e=.returned (.agg #[.int .i64 0,.int .i64 5,.int .u8 0,.int .i64 9,.int .i8 0])∧AlS w A P w'):=lh fun W h=>(whole_any sWide 9 0 W).mono fun e w' ⟨h1,h2⟩=>⟨h1,h.below h2⟩
 obtain⟨c0,c1,c2,c3,c4,c5,c6,c7,c8,c9⟩:=hA3.cells
 go_upto_region 4 with (go_at_call 11;refine (HST.out _ hA3).mono ?_;rintro e w4 ⟨sa,sc,rfl,hO4,hA4⟩;obtain⟨d0,d1,d2,d3,d4,d5,d6,d7,d8,d9⟩:=hA4.cells)
 clear c0 c1 c2 c3 c4 c5 c6 c7 c8 c9
 have HO4:=lh hO4
 have HA4:=lh hA4
 have hb4:(0:Int)≤1:=by omega
 obtain⟨G,eG,_,hGl,hsc⟩:=own_cells (n:=7) (by have h:=hO4;unfold OwnS at h;exact h) (by decide)
 subst eG
 have hKS:∀W,Below w4.heap.size w4 W→W.cell? ⟨G,3,none⟩=some (.int .i64 1)∧W.cell? ⟨G,4,none⟩=some (.bool true)∧W.cell? ⟨G,5,none⟩=some (.int .i64 (-1)):=fun W hb =>
  ⟨cell_bl hb hGl ((hsc 3 (by decide)).trans rfl),cell_bl hb hGl ((hsc 4 (by decide)).trans rfl),cell_bl hb hGl ((hsc 5 (by decide)).trans rfl)⟩
 have HKS:=lh hKS
 clear hKS hsc hO4 HST
 have HPL:Hid (∀(back:Bool) (W:World),(AlS w A P W∧Below w4.heap.size w4 W)→Calls Tryz.prog 15 #[.string ⟨#[97,215,144,215,145,98]⟩,.agg #[.int .i64 0,.int .i64 6,.int .u8 0,.int .i64 99,.int .i8 0],.agg #[.int .i64 0,.bool false,.int .i8 0,.bool false,.bool false],.agg #[.int .i64 1,.bool back,.int .i64 0]] W fun e w'=>e=.returned (.int .i64 (if back=true then 1 else 3))∧AlS w A P w'∧Below w4.heap.size w4 w'):=lh fun back W h=>by
  cases back
  ·exact (HPF.out W h.1).mono fun e w' ⟨h1,h2,h3⟩=>⟨by rw [h1];rfl,h2,h.2.trans (h3.mono h.2.size)⟩
  ·exact (HPT.out W h.1).mono fun e w' ⟨h1,h2,h3⟩=>⟨by rw [h1];rfl,h2,h.2.trans (h3.mono h.2.size)⟩
 clear HPF HPT
 go_upto_region 5 with (first
  | (go_at_call 12;refine (HCE.out _ HA4.out).mono ?_;rintro e w5 ⟨a5,c5',rfl,hO5,hA5,hb5⟩;have hK5:AlS w A P w5∧Below w4.heap.size w4 w5:=⟨hA5,hb5⟩;have HTX:=lh (mixTexts _ _ _ _ hO5);obtain⟨p0,p1,p2,p3,p4,p5,p6,p7,p8,p9⟩:=hA5.cells)
  | (go_at_call 50;refine HTX.out.mono ?_;rintro e w6 ⟨rfl,rfl⟩)
  | (go_at_call 15;refine (HPL.out _ _ (by assumption)).mono ?_;rintro e w7 ⟨rfl,hK7⟩;obtain⟨q0,q1,q2,q3,q4,q5,q6,q7,q8,q9⟩:=hK7.1.cells;obtain⟨s3,s4,s5⟩:=HKS.out w7 hK7.2))
 have hA7:=hK7.1
 have HA7:=lh hA7
 clear d0 d1 d2 d3 d4 d5 d6 d7 d8 d9 HKS HPL HCE HTX hA5 hK5 hK7 hO5 s3 s4 s5
 obtain⟨S,hSi,hSo⟩:∃S:World→Prop,(∀W:World,AlS w A P W→S W)∧(∀W:World,S W→AlS w A P W):=⟨fun W=>AlS w A P W,fun _ h=>h,fun _ h=>h⟩
 have HSi:=lh hSi
 have hne':Nonempty (WIn S):=⟨⟨_,hSi _ hA7⟩⟩
 have c0:∀q:WIn S,q.w.cell? ⟨A,0,none⟩=some (.int .i64 0):=fun q=>(hSo _ q.h).cells.1
 have c1:∀q:WIn S,q.w.cell? ⟨A,1,none⟩=some (.bool false):=fun q=>(hSo _ q.h).cells.2.1
 have c2:∀q:WIn S,q.w.cell? ⟨A,2,none⟩=some (.int .i8 0):=fun q=>(hSo _ q.h).cells.2.2.1
 have c3:∀q:WIn S,q.w.cell? ⟨A,3,none⟩=some (.bool false):=fun q=>(hSo _ q.h).cells.2.2.2.1
 have c4:∀q:WIn S,q.w.cell? ⟨A,4,none⟩=some (.bool false):=fun q=>(hSo _ q.h).cells.2.2.2.2.1
 have c5:∀q:WIn S,q.w.cell? ⟨P,0,none⟩=some (.int .i64 0):=fun q=>(hSo _ q.h).cells.2.2.2.2.2.1
 have c6:∀q:WIn S,q.w.cell? ⟨P,1,none⟩=some (.int .i64 6):=fun q=>(hSo _ q.h).cells.2.2.2.2.2.2.1
 have c7:∀q:WIn S,q.w.cell? ⟨P,2,none⟩=some (.int .u8 0):=fun q=>(hSo _ q.h).cells.2.2.2.2.2.2.2.1
 have c8:∀q:WIn S,q.w.cell? ⟨P,3,none⟩=some (.int .i64 99):=fun q=>(hSo _ q.h).cells.2.2.2.2.2.2.2.2.1
 have c9:∀q:WIn S,q.w.cell? ⟨P,4,none⟩=some (.int .i8 0):=fun q=>(hSo _ q.h).cells.2.2.2.2.2.2.2.2.2
 clear hSi hSo
 refine wp_region_segG S [([0,1,2,3],4),([5,6,7,8,10],9),([],11),([],12)] [13,14,15] (by kernel_rfl) (by kernel_rfl) (HSi.out _ hA7.drew) ?_
 simp only [segHG,opsAt,List.filterMap_cons,List.filterMap_nil,List.getElem?_toArray,List.getElem?_cons_zero,List.getElem?_cons_succ]
 show wpQuiet _ _ _ _ [_,_,_,_] _
 repeat (go_big_quiet_step (fail))
 refine wpQuiet_nil ?_
 have hA7d:=HA7.out.drew
 refine⟨fun o ho=>by cases ho;rfl,?_⟩
 intro K hK
 have HKK:=lh hK
 clear hK
 show wpList _ _ _ [_] _ _
 go_wp2_with (go_at_call 14;refine (HHI.out _ hA7d).mono ?_;rintro e w8 ⟨k,rfl,hA8⟩)
 refine HKK.out _ _ (HSi.out _ hA8) ?_
 clear HKK hA7 hA7d HHI
 have hcf:=fun (x y z:Value) (w:World)=>ca_f0 x y z w
 show wpQuiet _ _ _ _ [_,_,_,_,_] _
 repeat (go_big_quiet_step (fail))
 refine wpQuiet_nil ?_
 refine⟨fun o ho=>by cases ho;rfl,?_⟩
 intro K hK
 have HKK:=lh hK
 clear hK
 show wpList _ _ _ [_] _ _
 go_wp2_with (go_at_call 49;refine (HW2.out _ hA8).mono ?_;rintro e w9 ⟨rfl,hA9⟩)
 refine HKK.out _ _ (HSi.out _ hA9) ?_
 clear HKK hA8 HW2
 show wpQuiet _ _ _ _ [] _
 refine wpQuiet_nil ?_
 refine⟨fun o ho=>by cases ho;rfl,?_⟩
 intro K hK
 have HKK:=lh hK
 clear hK
 show wpList _ _ _ [_] _ _
 go_wp2_with (go_at_call 12;refine (HCW.out _ hA9).mono ?_;rintro e w10 ⟨a,c,rfl,hO10,hA10⟩)
 refine HKK.out _ _ (HSi.out _ hA10) ?_
 clear HKK hA9 HCW
 have HTX:=lh (wideTexts _ _ _ _ hO10)
 show wpQuiet _ _ _ _ [] _
 refine wpQuiet_nil ?_
 refine⟨fun o ho=>by cases ho;rfl,?_⟩
 intro K hK
 have HKK:=lh hK
 clear hK
 show wpList _ _ _ [_] _ _
 go_wp2_with (go_at_call 50;refine HTX.out.mono ?_;rintro e w11 ⟨rfl,rfl⟩)
 refine HKK.out _ _ (HSi.out _ hA10) ?_
 clear HKK HTX
 show wpQuiet _ _ _ _ [_,_,_] _
 repeat (go_big_quiet_step (fail))
 refine wpQuiet_nil ?_
 refine NoPanic.normal ?_
 clear c0 c1 c2 c3 c4 c5 c6 c7 c8 c9 hne' HSi
 go_wp2_with (fail)
 go_ret
 exact⟨rfl,hA10.bel⟩
end
section
open Go.RowKit Go.Proofs Go.Shelf
attribute [local go_sem] Oper.semAt_some
theorem ca_cells {w:World} {base n c:Nat} {a:Option Addr} {l:List St} (hl:l.length=n) (hO:OwnS caE 33 w base (.slice a n c) l) (i:Nat) (x:St) (hx:l[i]? = some x) :
 ∃G,a=some ⟨G,0,none⟩∧w.cell? ⟨G,i*3,none⟩=some (.int .i64 x.a)∧w.cell? ⟨G,i*3+1,none⟩=some (.bool x.back)∧w.cell? ⟨G,i*3+2,none⟩=some (.int .i64 (-1)):=by
 subst hl
 obtain⟨G,eG,_,_,hc,_⟩:=hO.at i x hx
 exact⟨G,eG,hc 0 _ rfl,hc 1 _ rfl,hc 2 _ rfl⟩
theorem ca_fields:(Tryz.prog.fieldsOf 33).toList=[{ name := "At",type:=3,offset:=0,embedded:=false,tag := "",pkgPath := "",byteOffset:=0 },{ name := "Back",type:=4,offset:=1,embedded:=false,tag := "",pkgPath := "",byteOffset:=8 },{ name := "Want",type:=3,offset:=2,embedded:=false,tag := "",pkgPath := "",byteOffset:=16 }]:=by kernel_rfl
theorem ca_held:Tryz.prog.stoodInHeld 33=false:=by kernel_rfl
theorem ca_under:Tryz.prog.underlying 33=some (.struct (Tryz.prog.fieldsOf 33)):=by kernel_rfl
theorem Tryz.eq_caret (a1 a3 b1 b3:Int) (a2 b2:Bool) (w:World) :
 (Op.equalIn 10000 33 (.agg #[.int .i64 a1,.bool a2,.int .i64 a3]) (.agg #[.int .i64 b1,.bool b2,.int .i64 b3])).run Tryz.prog w=.ok (decide (a1=b1)&&decide (a2=b2)&&decide (a3=b3)) w:=by
 rw [run_equalIn_struct w 9999 33 _ _ ca_under ca_held,ca_fields]
 have p3:∀(xs:Array Value) (off:Nat) (v:Value) (w:World),xs[off]? = some v→(part 3 xs off).run Tryz.prog w=.ok v w:=fun xs off v w hx=>by simp [part,isAgg,run_underlying Tryz.underlying3,hx]
 have p4:∀(xs:Array Value) (off:Nat) (v:Value) (w:World),xs[off]? = some v→(part 4 xs off).run Tryz.prog w=.ok v w:=fun xs off v w hx=>by simp [part,isAgg,run_underlying Tryz.underlying4,hx]
 have e3:=fun (a b:Int)=>run_equalIn_int w 9998 3 .i64 .i64 a b Tryz.underlying3
 have e4:∀(a b:Bool),(Op.equalIn 9999 4 (.bool a) (.bool b)).run Tryz.prog w=.ok (decide (a=b)) w:=fun a b=>by
  rw [show (9999:Nat)=9998+1 from rfl,Op.equalIn]
  cases a <;> cases b <;> simp [run_underlying Tryz.underlying4]
 simp only [Nat.reduceAdd] at e3
 have key:∀(f:Field) (fs:List Field) (xs ys:Array Value) (x y:Value) (b:Bool),f.name ≠ "_" → (part f.type xs f.offset).run Tryz.prog w=.ok x w→(part f.type ys f.offset).run Tryz.prog w=.ok y w→(Op.equalIn 9999 f.type x y).run Tryz.prog w=.ok b w →
  (Op.eqFields 9999 xs ys (f::fs)).run Tryz.prog w=if b=true then (Op.eqFields 9999 xs ys fs).run Tryz.prog w else .ok false w:=by
  intro f fs xs ys x y b h0 h1 h2 h3
  simp only [Op.eqFields,if_pos h0,Sem.run_bind,h1,h2,h3,Result.andThen_ok]
  cases b <;> simp [Sem.run_pure]
 refine Eq.trans (key _ _ _ _ _ _ _ (by simp) (p3 _ _ _ w (by rfl)) (p3 _ _ _ w (by rfl)) (e3 _ _)) ?_
 by_cases h1:a1=b1
 case neg=>rw [if_neg (by simpa using h1),decide_eq_false h1];rfl
 rw [if_pos (by simpa using h1)]
 refine Eq.trans (key _ _ _ _ _ _ _ (by simp) (p4 _ _ _ w (by rfl)) (p4 _ _ _ w (by rfl)) (e4 _ _)) ?_
 by_cases h2:a2=b2
 case neg=>rw [if_neg (by simpa using h2),decide_eq_false h2,Bool.and_false];rfl
 rw [if_pos (by simpa using h2)]
 refine Eq.trans (key _ _ _ _ _ _ _ (by simp) (p3 _ _ _ w (by rfl)) (p3 _ _ _ w (by rfl)) (e3 _ _)) ?_
 by_cases h3:a3=b3
 case neg=>rw [if_neg (by simpa using h3),decide_eq_false h3,Bool.and_false]
 rw [if_pos (by simpa using h3)]
 rw [decide_eq_true h1,decide_eq_true h2,decide_eq_true h3]
 simp [Op.eqFields]
end
section
theorem set_getD (l:List Nat) (i j v:Nat):(l.set i v).getD j 0=v∨(l.set i v).getD j 0=l.getD j 0:=by
 rw [List.getD_eq_getElem?_getD,List.getD_eq_getElem?_getD,List.getElem?_set]
 by_cases h:i=j
 ·subst h
  by_cases h2:i<l.length
  ·left;simp [h2]
  ·right;rw [if_pos rfl,if_neg h2,List.getElem?_eq_none (by omega)]
 ·right;rw [if_neg h]
theorem set_same (l:List Nat) (i v:Nat):(l.set i v).getD i 0=v∨(l.set i v).getD i 0=0:=by
 rw [List.getD_eq_getElem?_getD,List.getElem?_set,if_pos rfl]
 by_cases h2:i<l.length
 ·left;simp [h2]
 ·right;rw [if_neg h2];rfl
theorem hangF_le (cs:List Int) (base fr:Nat) (hb:base≤126):∀(i:Nat) (h:Bool) (out:List Nat),(∀j,i≤j→out.getD j 0≤126)→∀j,(hangF cs base fr i h out).getD j 0≤126
 | 0,h,out,ho,j=>ho j (Nat.zero_le _)
 | i+1,h,out,ho,j=>by
   rw [hangF]
   refine hangF_le cs base fr hb i _ _ (fun q hq=>?_) j
   have key:∀l:List Nat,(∀q,i+1≤q→l.getD q 0≤126)→∀v,v≤126→∀q,i≤q→(l.set i v).getD q 0≤126:=fun l hl v hv q hq=>by
    by_cases e:i=q
    ·subst e
     rcases set_same l i v with h | h <;> omega
    ·rcases set_getD l i q v with h | h
     ·omega
     ·have:=hl q (by omega);omega
   have h1:=key out ho (min (out.getD i 0) 126) (by omega)
   split
   ·exact key _ (fun q hq=>h1 q (by omega)) base hb q hq
   ·exact h1 q hq
theorem row_le {cs:List Int} {ls:List Nat} {base:Nat} {fr tt:Int} {out:List Nat} (h:rowI cs ls base fr tt=some out):∀j,out.getD j 0≤126:=by
 unfold rowI at h
 dsimp only at h
 split at h
 ·cases h
 ·have:=Option.some.inj h
  subst this
  refine hangF_le _ _ _ (by omega) _ _ _ (fun j hj=>?_)
  rw [List.getD_eq_getElem?_getD,List.getElem?_eq_none (by rw [List.length_take];omega)]
  exact Nat.zero_le _
theorem own_le (s:ByteArray) (want:Int) (fr m:Nat):∀j,(ownLv s want fr m).getD j 0≤126:=fun j=>by
 unfold ownLv
 cases h:rowI (runesI s) (visualI (runesI s) want).1 (visualI (runesI s) want).2.toNat (runesI (s.extract 0 fr)).length ((runesI (s.extract 0 fr)).length+m:Nat) with
 | none=>simp
 | some out=>exact row_le h j
theorem found_lv0:∀(l:List (Nat × ByteArray)) (n:Nat),∀p∈findF l n,p.level=0
 | [],n,p,hp=>by cases hp
 | q::t,n,p,hp=>by
   rw [findF] at hp
   rcases List.mem_cons.1 hp with rfl | hp
   ·rfl
   ·exact found_lv0 t _ p hp
theorem lay2_lv (s:ByteArray) (want:Int) (join raw:Bool) (ra rl:Int):∀p∈lay2 s want join raw ra rl,p.level<256:=fun p hp=>by
 unfold lay2 at hp
 obtain⟨q,hq,rfl⟩:=List.mem_map.1 hp
 show q.level<256
 unfold levelsI at hq
 split at hq
 ·have:=found_lv0 _ _ q hq
  omega
 ·obtain⟨r,hr,rfl⟩:=List.mem_map.1 hq
  obtain⟨o,ho⟩:∃o,ownLv s want (rowFr s ra) (lastC (foundI s (rowFr s ra) (rowTo s ra rl)))=o:=⟨_,rfl⟩
  have h1:=own_le s want (rowFr s ra) (lastC (foundI s (rowFr s ra) (rowTo s ra rl))) r.c0
  rw [ho] at h1 ⊢
  show o.getD r.c0 0<256
  omega
end
section
open Go.RowKit Go.Proofs Go.Shelf
attribute [local go_sem] Oper.semAt_some
theorem cellsF_le (L:List Pc) (h:∀p∈L,0≤p.wide∧p.wide≤19):∀o:List Int,(cellsF L o).length≤19*o.length
 | []=>Nat.le_refl _
 | i::t=>by
   have ih:=cellsF_le L h t
   rw [cellsF,List.length_append,List.length_cons]
   have h1:(if 0<(L.getD i.toNat default).wide then cellsP (L.getD i.toNat default) else []).length≤19:=by
    split
    ·rw [cellsP_len,List.getD_eq_getElem?_getD]
     by_cases hi:i.toNat<L.length
     ·rw [List.getElem?_eq_getElem hi]
      have:=h _ (List.getElem_mem hi)
      simp only [Option.getD_some]
      omega
     ·rw [List.getElem?_eq_none (by omega)]
      decide
    ·exact Nat.zero_le _
   omega
theorem cells_le (s:ByteArray) (tab want:Int) (wideA join raw:Bool) (ra rl rw:Int) (hs:s.size≤2097152):(cellsI (layI s tab want wideA join raw ra rl rw)).length≤39845888:=by
 have h1:=cellsF_le (layL s tab want wideA join raw ra rl rw) (layL_bd s tab want wideA join raw ra rl rw) (laySeen s want join raw ra rl)
 have h2:(laySeen s want join raw ra rl).length=(layL s tab want wideA join raw ra rl rw).length:=by unfold laySeen;rw [order_len,List.length_map,layL_len]
 have h3:=layL_max s tab want wideA join raw ra rl rw hs
 have h4:(cellsI (layI s tab want wideA join raw ra rl rw)).length=(cellsF (layL s tab want wideA join raw ra rl rw) (laySeen s want join raw ra rl)).length:=rfl
 omega
end
section
open Go.RowKit Go.Proofs Go.Shelf
attribute [local go_sem] Oper.semAt_some
theorem edges_facts (s:ByteArray) (hs:s.size≤2097152) (tab want:Int) (wideA join raw:Bool) (ra rl rw fin:Int) :
 ∃(Q:List St) (n0 nc:Nat) (pf:Int→Bool→Int) (hf:Int→St),stopsI (layI s tab want wideA join raw ra rl rw) fin=Q∧Q.length=n0∧(cellsI (layI s tab want wideA join raw ra rl rw)).length=nc∧(∀c b,placeI (layI s tab want wideA join raw ra rl rw) c b=pf c b)∧(∀x,hitI (layI s tab want wideA join raw ra rl rw) fin x=hf x) ∧
   1≤n0∧n0≤8388608∧nc≤39845888∧(∀st∈Q,pf (st.a:Int) st.back=st.x∧0≤st.x∧st.x≤nc)∧SrtL Q∧(∀x:Int,0≤x→x≤nc→hf x∈Q∧∀st∈Q,gapI (hf x).x x≤gapI st.x x)∧(∀st∈Q,pf ((hf st.x).a:Int) (hf st.x).back=st.x) ∧
   (rawS (layI s tab want wideA join raw ra rl rw) fin).length≤8388608∧0<(rawS (layI s tab want wideA join raw ra rl rw) fin).length∧smallX (rawS (layI s tab want wideA join raw ra rl rw) fin)∧smallX (stopsI (layI s tab want wideA join raw ra rl rw) fin):=by
 obtain⟨e1,e2,e3,e4,e5,e6⟩:=edges_plain s tab want wideA join raw ra rl rw fin _ rfl
 have hn:=layL_max s tab want wideA join raw ra rl rw hs
 have hc:=cells_le s tab want wideA join raw ra rl rw hs
 have hr:(rawS (layI s tab want wideA join raw ra rl rw) fin).length≤8388608:=by
  unfold rawS
  have h1:=stopsF_len (layI s tab want wideA join raw ra rl rw) (cutB fin) (layI s tab want wideA join raw ra rl rw).l 0
  have h2:(layI s tab want wideA join raw ra rl rw).l.length≤2097152:=hn
  omega
 have hl:(stopsI (layI s tab want wideA join raw ra rl rw) fin).length=(rawS (layI s tab want wideA join raw ra rl rw) fin).length:=by rw [stopsI_isrt,isrt_len]
 have hp:0<(stopsI (layI s tab want wideA join raw ra rl rw) fin).length:=by
  cases h:stopsI (layI s tab want wideA join raw ra rl rw) fin with
  | nil=>exact absurd h e1
  | cons a t=>simp
 have hsm:smallX (stopsI (layI s tab want wideA join raw ra rl rw) fin):=fun st h=>by have:=(e2 st h).2;omega
 have hsm2:smallX (rawS (layI s tab want wideA join raw ra rl rw) fin):=fun st h=>hsm st (by rw [stopsI_isrt];exact (isrt_mem _ st).2 h)
 refine⟨_,_,_,fun c b=>placeI (layI s tab want wideA join raw ra rl rw) c b,fun x=>hitI (layI s tab want wideA join raw ra rl rw) fin x,rfl,rfl,rfl,fun _ _=>rfl,fun _=>rfl,hp,by omega,hc,fun st h=>?_,e3,fun x h1 h2=>?_,e6,hr,by omega,hsm2,hsm⟩
 ·have:=e2 st h
  exact⟨this.1,this.2.1,by omega⟩
 ·obtain⟨k1,k2⟩:=e5 x
  refine⟨k1,fun st h=>?_⟩
  have:=k2 st h
  have hm:min (max x 0) (layI s tab want wideA join raw ra rl rw).wide=x:=by omega
  rw [hm] at this
  exact this
theorem lfar_any (x y:Int) (hx:0≤x∧x≤39845888) (hy:0≤y∧y≤39845888) (w:World) :
 Calls Tryz.prog 16 #[.int .i64 x,.int .i64 y] w fun e w'=>e=.returned (.int .i64 (gapI x y))∧w=w':=by
 have h1:IntKind.i64.wrap (x-y)=x-y:=by rw [IntKind.wrap_i64];omega
 have h2:IntKind.i64.wrap (y-x)=y-x:=by rw [IntKind.wrap_i64];omega
 go_enter Tryz.func16,Tryz.ntmps16
 go_wp2_with (fail)
 go_ret
 exact⟨rfl,rfl⟩
end
end Go.Proofs.YtlmjbfncopbilaaGreatDoor
