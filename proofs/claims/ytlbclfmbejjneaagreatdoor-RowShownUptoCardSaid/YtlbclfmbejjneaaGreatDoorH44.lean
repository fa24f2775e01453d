/- Part 44 of the proof (merged by a program out of the texts AliveW, GoodT, OneC): lemmas of no further condition than each states. -/
import Derived.Test.YtlbclfmbejjneaaGreatDoorH43
namespace Go.Proofs.YtlbclfmbejjneaaGreatDoor
set_option linter.unusedVariables false
set_option linter.unusedSimpArgs false
section
open Go.RowKit Go.Proofs Go.Shelf
attribute [local go_sem] Oper.semAt_some
structure AlS (w : World) (A P : Nat) (W : World) : Prop where
 bel : Below w.heap.size w W
 lk : W.heap[A]? = some (.cells #[.int .i64 0, .bool false, .int .i8 0, .bool false, .bool false] 26 (0, 0))
 rw : W.heap[P]? = some (.cells #[.int .i64 0, .int .i64 6, .int .u8 0, .int .i64 99, .int .i8 0] 24 (0, 0))
theorem AlS.below {w W W' : World} {A P : Nat} (h : AlS w A P W) (hb : Below W.heap.size W W') : AlS w A P W' :=
 ⟨h.bel.trans (hb.mono h.bel.size), (hb.block _ (Array.getElem?_eq_some_iff.1 h.lk).1).trans h.lk, (hb.block _ (Array.getElem?_eq_some_iff.1 h.rw).1).trans h.rw⟩
theorem AlS.drew {w W : World} {A P : Nat} (h : AlS w A P W) : AlS w A P W.drew := ⟨h.bel.drew, h.lk, h.rw⟩
def AlC (A P : Nat) (W : World) : Prop := W.cell? ⟨A, 0, none⟩ = some (.int .i64 0) ∧ W.cell? ⟨A, 1, none⟩ = some (.bool false) ∧ W.cell? ⟨A, 2, none⟩ = some (.int .i8 0) ∧ W.cell? ⟨A, 3, none⟩ = some (.bool false) ∧ W.cell? ⟨A, 4, none⟩ = some (.bool false) ∧
 W.cell? ⟨P, 0, none⟩ = some (.int .i64 0) ∧ W.cell? ⟨P, 1, none⟩ = some (.int .i64 6) ∧ W.cell? ⟨P, 2, none⟩ = some (.int .u8 0) ∧ W.cell? ⟨P, 3, none⟩ = some (.int .i64 99) ∧ W.cell? ⟨P, 4, none⟩ = some (.int .i8 0)
theorem AlS.cells {w W : World} {A P : Nat} (h : AlS w A P W) : AlC A P W := by
 have h1 := h.lk
 have h2 := h.rw
 refine ⟨?_, ?_, ?_, ?_, ?_, ?_, ?_, ?_, ?_, ?_⟩ <;> simp [World.cell?, h1, h2]
def qMix : List St := [⟨0, false, 0⟩, ⟨1, true, 1⟩, ⟨5, true, 1⟩, ⟨3, false, 2⟩, ⟨1, false, 3⟩, ⟨5, false, 3⟩, ⟨6, false, 4⟩]
theorem ca_f0 (x y z : Value) (w : World) : Sem.run Tryz.prog (Instr.field 49 (.agg #[x, y, z]) 0) w = .ok x w := by kernel_rfl
theorem mixStops (w : World) (hT : T8 w) (hD : DB w) : Calls Tryz.prog 18 #[.string ⟨#[97, 215, 144, 215, 145, 98]⟩, .agg #[.int .i64 0, .int .i64 6, .int .u8 0, .int .i64 99, .int .i8 0], .agg #[.int .i64 0, .bool false, .int .i8 0, .bool false, .bool false]] w fun e w' => ∃ a c, e = .returned (.slice a 7 c) ∧ OwnS caE 49 w' w.heap.size (.slice a 7 c) qMix ∧ Below w.heap.size w w' := by
 have h := Stops_any sMix (by decide) 0 6 0 99 0 0 0 false false false w hT hD (lvB_of mix_lv) mix_lt mix_pos (smallB_of mix_small)
 rw [show stopsI (layI sMix 0 0 false false false 0 6 99) 0 = qMix from mix_stops] at h
 exact h
theorem mixCells (w : World) (hT : T8 w) (hD : DB w) : Calls Tryz.prog 12 #[.string ⟨#[97, 215, 144, 215, 145, 98]⟩, .agg #[.int .i64 0, .int .i64 6, .int .u8 0, .int .i64 99, .int .i8 0], .agg #[.int .i64 0, .bool false, .int .i8 0, .bool false, .bool false]] w fun e w' => ∃ a c, e = .returned (.slice a 4 c) ∧ OwnS ceE 32 w' w.heap.size (.slice a 4 c) (cellsI rMix) ∧ Below w.heap.size w w' := by
 have h := Cells_any sMix (by decide) 0 6 0 99 0 0 0 false false false w hT hD (lvB_of mix_lv) (goodB_of mix_good)
 rw [show (cellsI (layI sMix 0 0 false false false 0 6 99)).length = 4 from mix_len] at h
 exact h
set_option maxRecDepth 100000 in
theorem wideCells (w : World) (hT : T8 w) (hD : DB w) : Calls Tryz.prog 12 #[.string ⟨#[97, 228, 184, 150, 255]⟩, .agg #[.int .i64 0, .int .i64 5, .int .u8 0, .int .i64 9, .int .i8 0], .agg #[.int .i64 0, .bool false, .int .i8 0, .bool false, .bool false]] w fun e w' => ∃ a c, e = .returned (.slice a 7 c) ∧ OwnS ceE 32 w' w.heap.size (.slice a 7 c) (cellsI rWide) ∧ Below w.heap.size w w' := by
 have h := Cells_any sWide (by decide) 0 5 0 9 0 0 0 false false false w hT hD (lvB_of wide_lv) (goodB_of wide_good)
 rw [show (cellsI (layI sWide 0 0 false false false 0 5 9)).length = 7 from wide_len] at h
 exact h
theorem mixTexts (base c : Nat) (a : Option Addr) (w : World) (hO : OwnS ceE 32 w base (.slice a 4 c) (cellsI rMix)) : Calls Tryz.prog 22 #[.slice a 4 c] w fun e w' => e = .returned (.string ⟨#[97, 215, 145, 215, 144, 98]⟩) ∧ w = w' := by
 have h := texts_any base 4 c a (cellsI rMix) mix_len (by decide) (fun x hx => by have := List.all_eq_true.1 mix_short x hx; simpa using this) w hO
 rw [mix_texts] at h
 exact h
theorem wideTexts (base c : Nat) (a : Option Addr) (w : World) (hO : OwnS ceE 32 w base (.slice a 7 c) (cellsI rWide)) : Calls Tryz.prog 22 #[.slice a 7 c] w fun e w' => e = .returned (.string ⟨#[97, 228, 184, 150, 46, 60, 102, 102, 62]⟩) ∧ w = w' := by
 have h := texts_any base 7 c a (cellsI rWide) wide_len (by decide) (fun x hx => by have := List.all_eq_true.1 wide_short x hx; simpa using this) w hO
 rw [wide_texts] at h
 exact h
theorem mixPlaceF (w : World) (hT : T8 w) (hD : DB w) : Calls Tryz.prog 20 #[.string ⟨#[97, 215, 144, 215, 145, 98]⟩, .agg #[.int .i64 0, .int .i64 6, .int .u8 0, .int .i64 99, .int .i8 0], .agg #[.int .i64 0, .bool false, .int .i8 0, .bool false, .bool false], .agg #[.int .i64 1, .bool false, .int .i64 0]] w fun e w' => e = .returned (.int .i64 3) ∧ Below w.heap.size w w' := by
 have h := Place_any sMix (by decide) 0 6 0 99 0 0 0 false false false 1 0 false w hT hD (lvB_of mix_lv)
 rw [show placeI (layI sMix 0 0 false false false 0 6 99) 1 false = 3 from mix_place.1] at h
 exact h
theorem mixPlaceT (w : World) (hT : T8 w) (hD : DB w) : Calls Tryz.prog 20 #[.string ⟨#[97, 215, 144, 215, 145, 98]⟩, .agg #[.int .i64 0, .int .i64 6, .int .u8 0, .int .i64 99, .int .i8 0], .agg #[.int .i64 0, .bool false, .int .i8 0, .bool false, .bool false], .agg #[.int .i64 1, .bool true, .int .i64 0]] w fun e w' => e = .returned (.int .i64 1) ∧ Below w.heap.size w w' := by
 have h := Place_any sMix (by decide) 0 6 0 99 0 0 0 false false false 1 0 true w hT hD (lvB_of mix_lv)
 rw [show placeI (layI sMix 0 0 false false false 0 6 99) 1 true = 1 from mix_place.2] at h
 exact h
theorem mixHit (w : World) (hT : T8 w) (hD : DB w) : Calls Tryz.prog 19 #[.string ⟨#[97, 215, 144, 215, 145, 98]⟩, .agg #[.int .i64 0, .int .i64 6, .int .u8 0, .int .i64 99, .int .i8 0], .agg #[.int .i64 0, .bool false, .int .i8 0, .bool false, .bool false], .int .i64 2] w fun e w' => ∃ k, e = .returned (.agg #[.int .i64 3, .bool k, .int .i64 (-1)]) ∧ Below w.heap.size w w' := by
 have h := Hit_any sMix (by decide) 0 6 0 99 0 0 0 2 false false false w hT hD (lvB_of mix_lv) mix_lt mix_pos (smallB_of mix_small) (smallB_of mix_small2)
 rw [show (hitI (layI sMix 0 0 false false false 0 6 99) 0 2).a = 3 from mix_hit] at h
 exact h.mono fun e w' ⟨h1, h2⟩ => ⟨_, h1, h2⟩
set_option maxRecDepth 100000 in
set_option maxHeartbeats 4000000 in
theorem alive_any (w : World) (hT : T8 w) (hD : DB w) :
 Calls Tryz.prog 14 #[] w fun e w' => e = .returned (.bool true) ∧ Below w.heap.size w w' := by
 have HWH : Hid (∀ W, Calls Tryz.prog 15 #[.string ⟨#[97, 215, 144, 215, 145, 98]⟩, .int .i64 99, .int .i8 0] W fun e w' => e = .returned (.agg #[.int .i64 0, .int .i64 6, .int .u8 0, .int .i64 99, .int .i8 0]) ∧ Below W.heap.size W w') := Lib.hid fun W => whole_any sMix 99 0 W
 have HTD : Hid (∀ W, Below w.heap.size w W → T8 W ∧ DB W) := Lib.hid fun W h => ⟨hT.below rfl h, hD.below h⟩
 clear hT hD
 go_enter Tryz.func14, Tryz.ntmps14
 go_upto_region 2 with (fail)
 have hb1 : Below w.heap.size w (w.alloc (.cells #[.int .i64 0, .bool false, .int .i8 0, .bool false, .bool false] 26)) := (Below.refl _ _).alloc (Nat.le_refl _) _
 have hx1 := World.alloc_heap_new w (.cells #[.int .i64 0, .bool false, .int .i8 0, .bool false, .bool false] 26)
 generalize w.alloc (.cells #[.int .i64 0, .bool false, .int .i8 0, .bool false, .bool false] 26) = W1 at hb1 hx1 ⊢
 obtain ⟨A, hA⟩ : ∃ A, w.heap.size = A := ⟨_, rfl⟩
 have HB1 := Lib.hid hb1
 rw [hA] at hx1 ⊢
 have HX1 := Lib.hid hx1
 have hA1 : A < W1.heap.size := (Array.getElem?_eq_some_iff.1 hx1).1
 clear hb1 hx1
 go_upto_region 3 with (go_at_call 15; refine (HWH.out _).mono ?_; rintro e w2 ⟨rfl, hb2⟩)
 have hA3 : AlS w A w2.heap.size (w2.alloc (.cells #[.int .i64 0, .int .i64 6, .int .u8 0, .int .i64 99, .int .i8 0] 24)) := by
  have hba := (Below.refl w2.heap.size w2).alloc (Nat.le_refl _) (.cells #[.int .i64 0, .int .i64 6, .int .u8 0, .int .i64 99, .int .i8 0] 24)
  have h12 := HB1.out.trans (hb2.mono HB1.out.size)
  exact ⟨h12.trans (hba.mono h12.size), (hba.block A (Nat.lt_of_lt_of_le hA1 hb2.size)).trans ((hb2.block A hA1).trans HX1.out), World.alloc_heap_new w2 _⟩
 generalize w2.alloc (.cells #[.int .i64 0, .int .i64 6, .int .u8 0, .int .i64 99, .int .i8 0] 24) = W3 at hA3 ⊢
 obtain ⟨P, hP⟩ : ∃ P, w2.heap.size = P := ⟨_, rfl⟩
 rw [hP] at hA3 ⊢
 clear hb2
 have HST : Hid (∀ W, AlS w A P W → Calls Tryz.prog 18 #[.string ⟨#[97, 215, 144, 215, 145, 98]⟩, .agg #[.int .i64 0, .int .i64 6, .int .u8 0, .int .i64 99, .int .i8 0], .agg #[.int .i64 0, .bool false, .int .i8 0, .bool false, .bool false]] W fun e w' => ∃ a c, e = .returned (.slice a 7 c) ∧ OwnS caE 49 w' W.heap.size (.slice a 7 c) qMix ∧ AlS w A P w') :=
  Lib.hid fun W h => (mixStops W (HTD.out W h.bel).1 (HTD.out W h.bel).2).mono fun e w' ⟨a, c, h1, h2, h3⟩ => ⟨a, c, h1, h2, h.below h3⟩
 have HCE : Hid (∀ W, AlS w A P W → Calls Tryz.prog 12 #[.string ⟨#[97, 215, 144, 215, 145, 98]⟩, .agg #[.int .i64 0, .int .i64 6, .int .u8 0, .int .i64 99, .int .i8 0], .agg #[.int .i64 0, .bool false, .int .i8 0, .bool false, .bool false]] W fun e w' => ∃ a c, e = .returned (.slice a 4 c) ∧ OwnS ceE 32 w' W.heap.size (.slice a 4 c) (cellsI rMix) ∧ AlS w A P w' ∧ Below W.heap.size W w') :=
  Lib.hid fun W h => (mixCells W (HTD.out W h.bel).1 (HTD.out W h.bel).2).mono fun e w' ⟨a, c, h1, h2, h3⟩ => ⟨a, c, h1, h2, h.below h3, h3⟩
 have HCW : Hid (∀ W, AlS w A P W → Calls Tryz.prog 12 #[.string ⟨#[97, 228, 184, 150, 255]⟩, .agg #[.int .i64 0, .int .i64 5, .int .u8 0, .int .i64 9, .int .i8 0], .agg #[.int .i64 0, .bool false, .int .i8 0, .bool false, .bool false]] W fun e w' => ∃ a c, e = .returned (.slice a 7 c) ∧ OwnS ceE 32 w' W.heap.size (.slice a 7 c) (cellsI rWide) ∧ AlS w A P w') :=
  Lib.hid fun W h => (wideCells W (HTD.out W h.bel).1 (HTD.out W h.bel).2).mono fun e w' ⟨a, c, h1, h2, h3⟩ => ⟨a, c, h1, h2, h.below h3⟩
 have HPF : Hid (∀ W, AlS w A P W → Calls Tryz.prog 20 #[.string ⟨#[97, 215, 144, 215, 145, 98]⟩, .agg #[.int .i64 0, .int .i64 6, .int .u8 0, .int .i64 99, .int .i8 0], .agg #[.int .i64 0, .bool false, .int .i8 0, .bool false, .bool false], .agg #[.int .i64 1, .bool false, .int .i64 0]] W fun e w' => e = .returned (.int .i64 3) ∧ AlS w A P w' ∧ Below W.heap.size W w') :=
  Lib.hid fun W h => (mixPlaceF W (HTD.out W h.bel).1 (HTD.out W h.bel).2).mono fun e w' ⟨h1, h2⟩ => ⟨h1, h.below h2, h2⟩
 have HPT : Hid (∀ W, AlS w A P W → Calls Tryz.prog 20 #[.string ⟨#[97, 215, 144, 215, 145, 98]⟩, .agg #[.int .i64 0, .int .i64 6, .int .u8 0, .int .i64 99, .int .i8 0], .agg #[.int .i64 0, .bool false, .int .i8 0, .bool false, .bool false], .agg #[.int .i64 1, .bool true, .int .i64 0]] W fun e w' => e = .returned (.int .i64 1) ∧ AlS w A P w' ∧ Below W.heap.size W w') :=
  Lib.hid fun W h => (mixPlaceT W (HTD.out W h.bel).1 (HTD.out W h.bel).2).mono fun e w' ⟨h1, h2⟩ => ⟨h1, h.below h2, h2⟩
 have HHI : Hid (∀ W, AlS w A P W → Calls Tryz.prog 19 #[.string ⟨#[97, 215, 144, 215, 145, 98]⟩, .agg #[.int .i64 0, .int .i64 6, .int .u8 0, .int .i64 99, .int .i8 0], .agg #[.int .i64 0, .bool false, .int .i8 0, .bool false, .bool false], .int .i64 2] W fun e w' => ∃ k, e = .returned (.agg #[.int .i64 3, .bool k, .int .i64 (-1)]) ∧ AlS w A P w') :=
  Lib.hid fun W h => (mixHit W (HTD.out W h.bel).1 (HTD.out W h.bel).2).mono fun e w' ⟨k, h1, h2⟩ => ⟨k, h1, h.below h2⟩
 have HW2 : Hid (∀ W, AlS w A P W → Calls Tryz.prog 15 #[.string ⟨#[97, 228, 184, 150, 255]⟩, .int .i64 9, .int .i8 0] W fun e w' => e = .returned (.agg #[.int .i64 0, .int .i64 5, .int .u8 0, .int .i64 9, .int .i8 0]) ∧ AlS w A P w') := Lib.hid fun W h => (whole_any sWide 9 0 W).mono fun e w' ⟨h1, h2⟩ => ⟨h1, h.below h2⟩
 obtain ⟨c0, c1, c2, c3, c4, c5, c6, c7, c8, c9⟩ := hA3.cells
 go_upto_region 4 with (go_at_call 18; refine (HST.out _ hA3).mono ?_; rintro e w4 ⟨sa, sc, rfl, hO4, hA4⟩; obtain ⟨d0, d1, d2, d3, d4, d5, d6, d7, d8, d9⟩ := hA4.cells)
 clear c0 c1 c2 c3 c4 c5 c6 c7 c8 c9
 have HO4 := Lib.hid hO4
 have HA4 := Lib.hid hA4
 have hb4 : (0 : Int) ≤ 1 := by omega
 obtain ⟨G, eG, _, hGl, hsc⟩ := own_cells (n := 7) (by have h := hO4; unfold OwnS at h; exact h) (by decide)
 subst eG
 have hKS : ∀ W, Below w4.heap.size w4 W → W.cell? ⟨G, 3, none⟩ = some (.int .i64 1) ∧ W.cell? ⟨G, 4, none⟩ = some (.bool true) ∧ W.cell? ⟨G, 5, none⟩ = some (.int .i64 (-1)) := fun W hb =>
  ⟨cell_bl hb hGl ((hsc 3 (by decide)).trans rfl), cell_bl hb hGl ((hsc 4 (by decide)).trans rfl), cell_bl hb hGl ((hsc 5 (by decide)).trans rfl)⟩
 have HKS := Lib.hid hKS
 clear hKS hsc hO4 HST
 have HPL : Hid (∀ (back : Bool) (W : World), (AlS w A P W ∧ Below w4.heap.size w4 W) → Calls Tryz.prog 20 #[.string ⟨#[97, 215, 144, 215, 145, 98]⟩, .agg #[.int .i64 0, .int .i64 6, .int .u8 0, .int .i64 99, .int .i8 0], .agg #[.int .i64 0, .bool false, .int .i8 0, .bool false, .bool false], .agg #[.int .i64 1, .bool back, .int .i64 0]] W fun e w' => e = .returned (.int .i64 (if back = true then 1 else 3)) ∧ AlS w A P w' ∧ Below w4.heap.size w4 w') := Lib.hid fun back W h => by
  cases back
  ·exact (HPF.out W h.1).mono fun e w' ⟨h1, h2, h3⟩ => ⟨by rw [h1]; rfl, h2, h.2.trans (h3.mono h.2.size)⟩
  ·exact (HPT.out W h.1).mono fun e w' ⟨h1, h2, h3⟩ => ⟨by rw [h1]; rfl, h2, h.2.trans (h3.mono h.2.size)⟩
 clear HPF HPT
 go_upto_region 5 with (first
  | (go_at_call 12; refine (HCE.out _ HA4.out).mono ?_; rintro e w5 ⟨a5, c5', rfl, hO5, hA5, hb5⟩; have hK5 : AlS w A P w5 ∧ Below w4.heap.size w4 w5 := ⟨hA5, hb5⟩; have HTX := Lib.hid (mixTexts _ _ _ _ hO5); obtain ⟨p0, p1, p2, p3, p4, p5, p6, p7, p8, p9⟩ := hA5.cells)
  | (go_at_call 22; refine HTX.out.mono ?_; rintro e w6 ⟨rfl, rfl⟩)
  | (go_at_call 20; refine (HPL.out _ _ (by assumption)).mono ?_; rintro e w7 ⟨rfl, hK7⟩; obtain ⟨q0, q1, q2, q3, q4, q5, q6, q7, q8, q9⟩ := hK7.1.cells; obtain ⟨s3, s4, s5⟩ := HKS.out w7 hK7.2))
 have hA7 := hK7.1
 have HA7 := Lib.hid hA7
 clear d0 d1 d2 d3 d4 d5 d6 d7 d8 d9 HKS HPL HCE HTX hA5 hK5 hK7 hO5 s3 s4 s5
 obtain ⟨S, hSi, hSo⟩ : ∃ S : World → Prop, (∀ W : World, AlS w A P W → S W) ∧ (∀ W : World, S W → AlS w A P W) := ⟨fun W => AlS w A P W, fun _ h => h, fun _ h => h⟩
 have HSi := Lib.hid hSi
 have hne' : Nonempty (WIn S) := ⟨⟨_, hSi _ hA7⟩⟩
 have c0 : ∀ q : WIn S, q.w.cell? ⟨A, 0, none⟩ = some (.int .i64 0) := fun q => (hSo _ q.h).cells.1
 have c1 : ∀ q : WIn S, q.w.cell? ⟨A, 1, none⟩ = some (.bool false) := fun q => (hSo _ q.h).cells.2.1
 have c2 : ∀ q : WIn S, q.w.cell? ⟨A, 2, none⟩ = some (.int .i8 0) := fun q => (hSo _ q.h).cells.2.2.1
 have c3 : ∀ q : WIn S, q.w.cell? ⟨A, 3, none⟩ = some (.bool false) := fun q => (hSo _ q.h).cells.2.2.2.1
 have c4 : ∀ q : WIn S, q.w.cell? ⟨A, 4, none⟩ = some (.bool false) := fun q => (hSo _ q.h).cells.2.2.2.2.1
 have c5 : ∀ q : WIn S, q.w.cell? ⟨P, 0, none⟩ = some (.int .i64 0) := fun q => (hSo _ q.h).cells.2.2.2.2.2.1
 have c6 : ∀ q : WIn S, q.w.cell? ⟨P, 1, none⟩ = some (.int .i64 6) := fun q => (hSo _ q.h).cells.2.2.2.2.2.2.1
 have c7 : ∀ q : WIn S, q.w.cell? ⟨P, 2, none⟩ = some (.int .u8 0) := fun q => (hSo _ q.h).cells.2.2.2.2.2.2.2.1
 have c8 : ∀ q : WIn S, q.w.cell? ⟨P, 3, none⟩ = some (.int .i64 99) := fun q => (hSo _ q.h).cells.2.2.2.2.2.2.2.2.1
 have c9 : ∀ q : WIn S, q.w.cell? ⟨P, 4, none⟩ = some (.int .i8 0) := fun q => (hSo _ q.h).cells.2.2.2.2.2.2.2.2.2
 clear hSi hSo
 refine wp_region_segG S [([0, 1, 2, 3], 4), ([5, 6, 7, 8, 10], 9), ([], 11), ([], 12)] [13, 14, 15] (by kernel_rfl) (by kernel_rfl) (HSi.out _ hA7.drew) ?_
 simp only [segHG, opsAt, List.filterMap_cons, List.filterMap_nil, List.getElem?_toArray, List.getElem?_cons_zero, List.getElem?_cons_succ]
 show wpQuiet _ _ _ _ [_, _, _, _] _
 repeat (go_big_quiet_step (fail))
 refine wpQuiet_nil ?_
 have hA7d := HA7.out.drew
 refine ⟨fun o ho => by cases ho; rfl, ?_⟩
 intro K hK
 have HKK := Lib.hid hK
 clear hK
 show wpList _ _ _ [_] _ _
 go_wp2_with (go_at_call 19; refine (HHI.out _ hA7d).mono ?_; rintro e w8 ⟨k, rfl, hA8⟩)
 refine HKK.out _ _ (HSi.out _ hA8) ?_
 clear HKK hA7 hA7d HHI
 have hcf := fun (x y z : Value) (w : World) => ca_f0 x y z w
 show wpQuiet _ _ _ _ [_, _, _, _, _] _
 repeat (go_big_quiet_step (fail))
 refine wpQuiet_nil ?_
 refine ⟨fun o ho => by cases ho; rfl, ?_⟩
 intro K hK
 have HKK := Lib.hid hK
 clear hK
 show wpList _ _ _ [_] _ _
 go_wp2_with (go_at_call 15; refine (HW2.out _ hA8).mono ?_; rintro e w9 ⟨rfl, hA9⟩)
 refine HKK.out _ _ (HSi.out _ hA9) ?_
 clear HKK hA8 HW2
 show wpQuiet _ _ _ _ [] _
 refine wpQuiet_nil ?_
 refine ⟨fun o ho => by cases ho; rfl, ?_⟩
 intro K hK
 have HKK := Lib.hid hK
 clear hK
 show wpList _ _ _ [_] _ _
 go_wp2_with (go_at_call 12; refine (HCW.out _ hA9).mono ?_; rintro e w10 ⟨a, c, rfl, hO10, hA10⟩)
 refine HKK.out _ _ (HSi.out _ hA10) ?_
 clear HKK hA9 HCW
 have HTX := Lib.hid (wideTexts _ _ _ _ hO10)
 show wpQuiet _ _ _ _ [] _
 refine wpQuiet_nil ?_
 refine ⟨fun o ho => by cases ho; rfl, ?_⟩
 intro K hK
 have HKK := Lib.hid hK
 clear hK
 show wpList _ _ _ [_] _ _
 go_wp2_with (go_at_call 22; refine HTX.out.mono ?_; rintro e w11 ⟨rfl, rfl⟩)
 refine HKK.out _ _ (HSi.out _ hA10) ?_
 clear HKK HTX
 show wpQuiet _ _ _ _ [_, _, _] _
 repeat (go_big_quiet_step (fail))
 refine wpQuiet_nil ?_
 refine NoPanic.normal ?_
 clear c0 c1 c2 c3 c4 c5 c6 c7 c8 c9 hne' HSi
 go_wp2_with (fail)
 go_ret
 exact ⟨rfl, hA10.bel⟩
end
section
theorem ascii_app (a b : ByteArray) : asciiB (a ++ b) = (asciiB a && asciiB b) := by
 unfold asciiB
 rw [show (a ++ b).data = a.data ++ b.data from ByteArray.data_append, Array.toList_append, List.all_append]
theorem ascii_nums (l : List Int) (h : ∀ x ∈ l, 0 ≤ x ∧ x < 128) : asciiB (strOfNums l) = true := by
 unfold asciiB strOfNums
 rw [List.all_eq_true]
 intro b hb
 simp only [List.mem_map] at hb
 obtain ⟨x, hx, rfl⟩ := hb
 have := h x hx
 have e : (UInt8.ofNat x.toNat).toNat = x.toNat := by
  rw [UInt8.toNat_ofNat']
  omega
 simp only [e, decide_eq_true_eq]
 omega
theorem digI_bd (d : Nat) (h : d < 16) : 0 ≤ digI d ∧ digI d < 128 := by
 unfold digI
 split <;> omega
theorem hexF_bd : ∀ (f u : Nat) (acc : List Int), (∀ x ∈ acc, 0 ≤ x ∧ x < 128) → ∀ x ∈ hexF f u acc, 0 ≤ x ∧ x < 128
 | 0, u, acc, h, x, hx => by
   rw [hexF] at hx
   rcases List.mem_cons.1 hx with rfl | hx
   ·exact digI_bd _ (by omega)
   ·exact h x hx
 | f + 1, u, acc, h, x, hx => by
   have hc : ∀ y ∈ digI (u % 16) :: acc, 0 ≤ y ∧ y < 128 := fun y hy => by
    rcases List.mem_cons.1 hy with rfl | hy
    ·exact digI_bd _ (by omega)
    ·exact h y hy
   rw [hexF] at hx
   split at hx
   ·exact hexF_bd f _ _ hc x hx
   ·exact hc x hx
theorem padF_ascii : ∀ (f : Nat) (s : ByteArray), asciiB s = true → asciiB (padF f s) = true
 | 0, s, h => h
 | f + 1, s, h => by
   rw [padF]
   split
   ·refine padF_ascii f _ ?_
    rw [ascii_app, h]
    rfl
   ·exact h
theorem named_ascii (x : Nat) : asciiB (namedS x) = true := by
 unfold namedS
 have h1 : asciiB (padF 4 (strOfNums (hexI x))) = true := padF_ascii _ _ (ascii_nums _ (hexF_bd 16 x [] (fun x h => by cases h)))
 rw [ascii_app, ascii_app, h1]
 rfl
theorem repeatL_one : ∀ n : Nat, (Lib.repeatL [(32 : UInt8)] n) = List.replicate n 32
 | 0 => rfl
 | n + 1 => by
   rw [List.replicate_succ, ← repeatL_one n]
   rfl
theorem spaces_ascii (n : Nat) : asciiB (spaces n) = true ∧ (spaces n).size = n := by
 unfold spaces asciiB
 rw [repeatL_one]
 refine ⟨?_, ?_⟩
 ·rw [List.all_eq_true]
  intro b hb
  rw [List.mem_replicate] at hb
  rw [hb.2]
  rfl
 ·simp [ByteArray.size]
theorem ctl_all : ∀ x : Fin 128, (x.val < 32 ∨ x.val = 127) → asciiB (runesBytes [bits BinOp.xor IntKind.i32 (x.val : Int) 64]) = true ∧ (runesBytes [bits BinOp.xor IntKind.i32 (x.val : Int) 64]).size = 1 := by decide +kernel
def GoodT (c : ByteArray) (t : ByteArray × Int) : Prop := 0 < t.2 → t.2 ≤ 19 ∧ (t.1 = c ∨ dotB t.1 = true ∨ asciiB t.1 = true ∧ t.2 = t.1.size)
theorem dot_pre (s : ByteArray) : dotB (⟨#[226, 151, 140]⟩ ++ s) = true := by
 unfold dotB
 rw [ByteArray.size_append]
 have h1 : (⟨#[226, 151, 140]⟩ ++ s : ByteArray).extract 0 3 = dotS := by
  rw [ByteArray.extract_append]
  show (dotS.extract 0 3) ++ s.extract (0 - 3) (3 - 3) = dotS
  rw [show s.extract (0 - 3) (3 - 3) = ⟨#[]⟩ by apply ByteArray.ext; simp]
  rfl
 rw [h1]
 simp only [decide_true, Bool.and_true, decide_eq_true_eq]
 show 3 ≤ 3 + s.size
 omega
theorem oneI_good (c : ByteArray) (rs : List Int) (col tab : Int) (wide raw : Bool) (h0 : 0 ≤ ith rs 0) : GoodT c (oneI c rs col tab wide raw) := by
 have hbd := oneI_bd c rs col tab wide raw
 intro hp
 refine ⟨hbd.2, ?_⟩
 have hst := stopI_bd col tab
 unfold oneI at hp ⊢
 split
 ·rename_i h
  rw [if_pos h] at hp
  dsimp only at hp ⊢
  obtain ⟨h1, h2⟩ := spaces_ascii (stopI col tab).toNat
  exact .inr (.inr ⟨h1, by rw [h2]; omega⟩)
 rename_i h1
 rw [if_neg h1] at hp
 split
 ·rename_i h
  rw [if_pos h] at hp
  exact absurd hp (by show ¬ (0 : Int) < 0; omega)
 rename_i h2
 rw [if_neg h2] at hp
 split
 ·rename_i h
  obtain ⟨k, hk, hk2⟩ : ∃ k : Fin 128, ith rs 0 = (k.val : Int) ∧ (k.val < 32 ∨ k.val = 127) := ⟨⟨(ith rs 0).toNat, by omega⟩, by dsimp only; omega, by dsimp only; omega⟩
  obtain ⟨e1, e2⟩ := ctl_all k hk2
  rw [hk]
  refine .inr (.inr ⟨?_, ?_⟩)
  ·dsimp only
   rw [ascii_app, e1]
   rfl
  ·dsimp only
   rw [ByteArray.size_append, e2]
   rfl
 rename_i h3
 rw [if_neg h3] at hp
 split
 ·rename_i h
  rw [if_pos h] at hp
  split
  ·exact .inr (.inr ⟨named_ascii _, rfl⟩)
  ·rename_i h'
   rw [if_neg h'] at hp
   exact absurd hp (by show ¬ (0 : Int) < 0; omega)
 rename_i h4
 rw [if_neg h4] at hp
 split
 ·exact .inr (.inl (dot_pre _))
 rename_i h5
 rw [if_neg h5] at hp
 split
 ·exact .inl rfl
 rename_i h6
 rw [if_neg h6] at hp
 split
 ·rename_i h
  rw [if_pos h] at hp
  exact absurd hp (by show ¬ (0 : Int) < 0; omega)
 ·exact .inl rfl
theorem text_good (c : ByteArray) (h : nextI c = c.size) (col tab : Int) (wide raw : Bool) : GoodT c (textI c col tab wide raw) := by
 unfold textI
 rw [h, ByteArray.extract_zero_size]
 unfold textD
 split
 ·intro hp
  exact absurd hp (by show ¬ (0 : Int) < 0; omega)
 split
 ·intro hp
  refine ⟨by show (4 : Int) ≤ 19; omega, .inr (.inr ⟨?_, ?_⟩)⟩
  ·dsimp only
   rw [ascii_app, ascii_app, ascii_nums]
   ·rfl
   ·intro x hx
    have h8 : (c.get! 0).toNat < 256 := UInt8.toNat_lt _
    simp only [List.mem_cons, List.not_mem_nil, or_false] at hx
    rcases hx with rfl | rfl <;> exact digI_bd _ (by omega)
  ·dsimp only
   rw [ByteArray.size_append, ByteArray.size_append, strOfNums_size]
   rfl
 ·rename_i h1 h2
  refine oneI_good _ _ _ _ _ _ ?_
  obtain ⟨_, hr⟩ := runesI_pos c (by omega)
  rw [hr]
  exact Int.natCast_nonneg _
end
section
def moreR (x : Int) : Nat → List Int → Nat → Int → Nat
 | 0, _, _, _ => 0
 | _ + 1, [], _, _ => 0
 | f + 1, y :: t, n, z => if goesOn x z y n = true then moreR x f t (n + 1) y + 1 else 0
def nextR : List Int → Nat
 | [] => 0
 | x :: t => if aloneB x = true then (if x = 13 ∧ t.head? = some 10 then 2 else 1) else moreR x 31 t 1 x + 1
theorem bytesF_app : ∀ (l m : List Int), bytesF (l ++ m) = bytesF l ++ bytesF m
 | [], m => by
   apply ByteArray.ext
   simp [bytesF]
 | r :: t, m => by rw [List.cons_append, bytesF, bytesF, bytesF_app t, ByteArray.append_assoc]
theorem bytesF_take_size (l : List Int) (k : Nat) (h : (bytesF (l.take k)).size = (bytesF l).size) : l.length ≤ k := by
 have h1 : bytesF l = bytesF (l.take k) ++ bytesF (l.drop k) := by rw [← bytesF_app, List.take_append_drop]
 rw [h1, ByteArray.size_append] at h
 have h2 : (bytesF (l.drop k)).size = 0 := by omega
 cases hd : l.drop k with
 | nil => exact List.drop_eq_nil_iff.1 hd
 | cons r t =>
   exfalso
   rw [hd, bytesF, ByteArray.size_append] at h2
   have := enc_pos r
   omega
theorem enc_bad (r : Int) (hv : validRune r = true) : ¬ (r = 65533 ∧ (Utf8.encode r).size = 1) := by
 rintro ⟨rfl, h⟩
 have : (Utf8.encode 65533).size = 3 := by decide
 omega
theorem more_runes (x : Int) : ∀ (f n : Nat) (z : Int) (pre rest : List Int), validAll rest → moreF x (bytesF (pre ++ rest)) f n z (bytesF pre).size = (bytesF (pre ++ rest.take (moreR x f rest n z))).size
 | 0, n, z, pre, rest, h => by rw [moreF, moreR]; simp
 | f + 1, n, z, pre, [], h => by
   rw [moreF, moreR, if_pos (.inl (by rw [List.append_nil]))]
   simp
 | f + 1, n, z, pre, y :: t, h => by
   have hv := h y (by simp)
   have hg := bytes_go y t hv
   have hy : 0 ≤ y := by unfold validRune at hv; rw [decide_eq_true_eq] at hv; omega
   have hx : (bytesF (pre ++ y :: t)).extract (bytesF pre).size (bytesF (pre ++ y :: t)).size = bytesF (y :: t) := by rw [bytesF_app]; exact app_tail _ _
   have e1 : decR (bytesF (y :: t)) = y := by unfold decR; rw [hg]; show ((y.toNat : Nat) : Int) = y; omega
   have e2 : decN (bytesF (y :: t)) = (Utf8.encode y).size := by unfold decN; rw [hg]
   have hp := enc_pos y
   have hz : (bytesF (pre ++ y :: t)).size = (bytesF pre).size + ((Utf8.encode y).size + (bytesF t).size) := by rw [bytesF_app, ByteArray.size_append, bytesF, ByteArray.size_append]
   rw [moreF, moreR, hx, e1, e2, if_neg (by
    rintro (e | e)
    ·omega
    ·exact enc_bad y hv e)]
   by_cases hgo : goesOn x z y n = true
   ·rw [if_pos hgo, if_pos hgo, List.take_succ_cons]
    have h1 := more_runes x f (n + 1) y (pre ++ [y]) t (fun r hr => h r (by simp [hr]))
    have h2 : (bytesF (pre ++ [y])).size = (bytesF pre).size + (Utf8.encode y).size := by
     rw [bytesF_app, ByteArray.size_append]
     congr 1
     rw [bytesF, ByteArray.size_append]
     rfl
    rw [h2] at h1
    rw [show pre ++ [y] ++ t = pre ++ y :: t by simp, show pre ++ [y] ++ t.take (moreR x f t (n + 1) y) = pre ++ y :: t.take (moreR x f t (n + 1) y) by simp] at h1
    exact h1
   ·rw [if_neg hgo, if_neg hgo]
    simp
theorem next_runes (l : List Int) (h : validAll l) : nextI (bytesF l) = (bytesF (l.take (nextR l))).size := by
 cases l with
 | nil => rw [nextR]; unfold nextI; rfl
 | cons x t =>
   have hv := h x (by simp)
   have hg := bytes_go x t hv
   have hx : 0 ≤ x := by unfold validRune at hv; rw [decide_eq_true_eq] at hv; omega
   have e1 : decR (bytesF (x :: t)) = x := by unfold decR; rw [hg]; show ((x.toNat : Nat) : Int) = x; omega
   have e2 : decN (bytesF (x :: t)) = (Utf8.encode x).size := by unfold decN; rw [hg]
   have hp := enc_pos x
   have hz : (bytesF (x :: t)).size = (Utf8.encode x).size + (bytesF t).size := by rw [bytesF, ByteArray.size_append]
   unfold nextI
   rw [if_neg (by omega), e1, e2, nextR]
   have hnb := enc_bad x hv
   have hone : (bytesF [x]).size = (Utf8.encode x).size := by rw [bytesF, ByteArray.size_append]; rfl
   by_cases ha : aloneB x = true
   ·rw [if_pos (.inr ha), if_pos ha]
    have key : (x = 13 ∧ 1 < (bytesF (x :: t)).size ∧ (bytesF (x :: t)).get! 1 = 10) ↔ (x = 13 ∧ t.head? = some 10) := by
     constructor
     ·rintro ⟨rfl, h1, h2⟩
      refine ⟨rfl, ?_⟩
      have e13 : (Utf8.encode 13).size = 1 := by decide
      have hg1 : (bytesF (13 :: t)).get! 1 = (bytesF t).get! 0 := by
       have := ext_get (bytesF (13 :: t)) 1 0 (by omega)
       rw [Nat.add_zero] at this
       rw [← this]
       congr 1
       have := app_tail (Utf8.encode 13) (bytesF t)
       rw [e13] at this
       rw [bytesF]; exact this
      cases t with
      | nil => exfalso; rw [hz, e13] at h1; simp [bytesF, ByteArray.size] at h1
      | cons y t =>
        have hvy := h y (by simp)
        have hgy := bytes_go y t hvy
        have hy : 0 ≤ y := by unfold validRune at hvy; rw [decide_eq_true_eq] at hvy; omega
        have hpy := enc_pos y
        have hzy : 0 < (bytesF (y :: t)).size := by rw [bytesF, ByteArray.size_append]; omega
        rw [← dec_go _ hzy, Lib.decode_at, ← hg1, h2] at hgy
        unfold Lib.decodeN at hgy
        rw [if_pos (by decide)] at hgy
        have := congrArg Prod.fst hgy
        simp at this
        have hyv : y = 10 := by
         have h10 : (10 : UInt8).toNat = 10 := rfl
         omega
        rw [hyv]; rfl
     ·rintro ⟨rfl, h1⟩
      cases t with
      | nil => cases h1
      | cons y t =>
        have : y = 10 := by simpa using h1
        subst this
        have e13 : (Utf8.encode 13).size = 1 := by decide
        have e10 : (Utf8.encode 10) = ⟨#[10]⟩ := by decide
        refine ⟨rfl, ?_, ?_⟩
        ·rw [hz, e13, bytesF, ByteArray.size_append, e10]
         show 1 < 1 + (1 + _); omega
        ·have hl : (bytesF (13 :: 10 :: t)).size = 1 + (1 + (bytesF t).size) := by rw [hz, e13, bytesF, ByteArray.size_append, e10]; rfl
         have := ext_get (bytesF (13 :: 10 :: t)) 1 0 (by omega)
         rw [Nat.add_zero] at this
         rw [← this]
         have h3 := app_tail (Utf8.encode 13) (bytesF (10 :: t))
         rw [e13] at h3
         rw [show bytesF (13 :: 10 :: t) = Utf8.encode 13 ++ bytesF (10 :: t) from rfl, h3, bytesF, e10]
         exact get_app #[10] _ 0 (by simp)
    by_cases hk : x = 13 ∧ t.head? = some 10
    ·rw [if_pos (key.2 hk), if_pos hk]
     obtain ⟨rfl, h1⟩ := hk
     cases t with
     | nil => cases h1
     | cons y t =>
       have : y = 10 := by simpa using h1
       subst this
       have e13 : (Utf8.encode 13).size = 1 := by decide
       have e10 : (Utf8.encode 10).size = 1 := by decide
       rw [List.take_succ_cons, List.take_succ_cons, List.take_zero, bytesF, bytesF, ByteArray.size_append, ByteArray.size_append, e13, e10]
       rfl
    ·rw [if_neg (fun h => hk (key.1 h)), if_neg hk, List.take_succ_cons, List.take_zero, hone]
   ·rw [if_neg (by rintro (e | e); exact hnb e; exact ha e), if_neg ha, List.take_succ_cons]
    have := more_runes x 31 1 x [x] t (fun r hr => h r (by simp [hr]))
    rw [hone] at this
    exact this
def sameP (x y : Int) : Prop := aloneB x = aloneB y ∧ (kindI x = 2 ↔ kindI y = 2) ∧ joinerB x = joinerB y ∧ regionalB x = regionalB y ∧ pictureB x = pictureB y ∧ partI x = partI y ∧ (x = 8205 ↔ y = 8205) ∧ (x = 13 ↔ y = 13) ∧ (x = 10 ↔ y = 10)
theorem sameP.refl (x : Int) : sameP x x := ⟨rfl, Iff.rfl, rfl, rfl, rfl, rfl, Iff.rfl, Iff.rfl, Iff.rfl⟩
theorem goes_same {x z y x' z' y' : Int} (hx : sameP x x') (hz : sameP z z') (hy : sameP y y') (n : Nat) : goesOn x z y n = goesOn x' z' y' n := by
 obtain ⟨_, _, _, x4, x5, _, _, _, _⟩ := hx
 obtain ⟨_, _, _, _, _, z6, z7, _, _⟩ := hz
 obtain ⟨_, y2, y3, y4, y5, y6, _, _, _⟩ := hy
 unfold goesOn goesB
 rw [y3, x4, y4, x5, y5, z6, y6, show decide (kindI y = 2) = decide (kindI y' = 2) from decide_eq_decide.2 y2, show decide (z = 8205) = decide (z' = 8205) from decide_eq_decide.2 z7]
inductive Alike : List Int → List Int → Prop
 | nil : Alike [] []
 | cons {x y : Int} {l m : List Int} : sameP x y → Alike l m → Alike (x :: l) (y :: m)
theorem Alike.refl : ∀ l : List Int, Alike l l
 | [] => .nil
 | x :: t => .cons (sameP.refl x) (Alike.refl t)
theorem more_same {x x' : Int} (hx : sameP x x') : ∀ (f : Nat) {l m : List Int} (n : Nat) {z z' : Int}, Alike l m → sameP z z' → moreR x f l n z = moreR x' f m n z'
 | 0, _, _, _, _, _, _, _ => rfl
 | f + 1, _, _, n, z, z', .nil, hz => rfl
 | f + 1, _, _, n, z, z', .cons (x := y) (y := y') h t, hz => by rw [moreR, moreR, goes_same hx hz h n, more_same hx f (n + 1) t h]
theorem next_same {l m : List Int} (h : Alike l m) : nextR l = nextR m := by
 cases h with
 | nil => rfl
 | cons hx ht =>
   rename_i x y l m
   rw [nextR, nextR, hx.1, more_same hx 31 1 ht hx]
   have e13 := hx.2.2.2.2.2.2.2.1
   have hh : (l.head? = some 10) ↔ (m.head? = some 10) := by
    cases ht with
    | nil => exact Iff.rfl
    | cons h _ =>
      have := h.2.2.2.2.2.2.2.2
      simp [this]
   have : (x = 13 ∧ l.head? = some 10) ↔ (y = 13 ∧ m.head? = some 10) := by rw [e13, hh]
   simp only [this]
theorem Alike.len {l m : List Int} (h : Alike l m) : l.length = m.length := by
 induction h with
 | nil => rfl
 | cons _ _ ih => rw [List.length_cons, List.length_cons, ih]
theorem one_cluster {c : ByteArray} (hb : badI c = false) (hn : nextI c = c.size) {own : List Int} (hv : validAll own) (ha : Alike (runesI c) own) : nextI (bytesF own) = (bytesF own).size := by
 have hc : bytesF (runesI c) = c := good_bytes c.size c (Nat.le_refl _) hb
 have h1 := next_runes (runesI c) (runes_valid c.size c (Nat.le_refl _))
 rw [hc, hn] at h1
 have h2 := bytesF_take_size (runesI c) (nextR (runesI c)) (by rw [← h1, hc])
 rw [next_runes own hv, ← next_same ha, List.take_of_length_le (by rw [← ha.len]; exact h2)]
end
end Go.Proofs.YtlbclfmbejjneaaGreatDoor
