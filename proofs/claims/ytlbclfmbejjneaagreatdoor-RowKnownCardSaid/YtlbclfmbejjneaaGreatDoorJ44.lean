/- Part 44 of the proof (merged by a program out of the texts AliveW, KnownP, StopL, GoodT): lemmas of no further condition than each states. -/
import Derived.Test.YtlbclfmbejjneaaGreatDoorJ43
namespace Go.Proofs.YtlbclfmbejjneaaGreatDoor
set_option linter.unusedVariables false
set_option linter.unusedSimpArgs false
section
open Go.RowKit Go.Proofs Go.Shelf
attribute [local go_sem] Oper.semAt_some
structure AlS (w : World) (A P : Nat) (W : World) : Prop where
 bel : Below w.heap.size w W
 lk : W.heap[A]? = some (.cells #[.int .i64 0, .bool false, .int .i8 0, .bool false, .bool false] 26 (0, 0))
 rw : W.heap[P]? = some (.cells #[.int .i64 0, .int .i64 6, .int .u8 0, .int .i64 99, .int .i8 0] 24 (0, 0))
theorem AlS.below {w W W' : World} {A P : Nat} (h : AlS w A P W) (hb : Below W.heap.size W W') : AlS w A P W' :=
 ⟨h.bel.trans (hb.mono h.bel.size), (hb.block _ (Array.getElem?_eq_some_iff.1 h.lk).1).trans h.lk, (hb.block _ (Array.getElem?_eq_some_iff.1 h.rw).1).trans h.rw⟩
theorem AlS.drew {w W : World} {A P : Nat} (h : AlS w A P W) : AlS w A P W.drew := ⟨h.bel.drew, h.lk, h.rw⟩
def AlC (A P : Nat) (W : World) : Prop := W.cell? ⟨A, 0, none⟩ = some (.int .i64 0) ∧ W.cell? ⟨A, 1, none⟩ = some (.bool false) ∧ W.cell? ⟨A, 2, none⟩ = some (.int .i8 0) ∧ W.cell? ⟨A, 3, none⟩ = some (.bool false) ∧ W.cell? ⟨A, 4, none⟩ = some (.bool false) ∧
 W.cell? ⟨P, 0, none⟩ = some (.int .i64 0) ∧ W.cell? ⟨P, 1, none⟩ = some (.int .i64 6) ∧ W.cell? ⟨P, 2, none⟩ = some (.int .u8 0) ∧ W.cell? ⟨P, 3, none⟩ = some (.int .i64 99) ∧ W.cell? ⟨P, 4, none⟩ = some (.int .i8 0)
theorem AlS.cells {w W : World} {A P : Nat} (h : AlS w A P W) : AlC A P W := by
 have h1 := h.lk
 have h2 := h.rw
 refine ⟨?_, ?_, ?_, ?_, ?_, ?_, ?_, ?_, ?_, ?_⟩ <;> simp [World.cell?, h1, h2]
def qMix : List St := [⟨0, false, 0⟩, ⟨1, true, 1⟩, ⟨5, true, 1⟩, ⟨3, false, 2⟩, ⟨1, false, 3⟩, ⟨5, false, 3⟩, ⟨6, false, 4⟩]
theorem ca_f0 (x y z : Value) (w : World) : Sem.run Tryz.prog (Instr.field 49 (.agg #[x, y, z]) 0) w = .ok x w := by kernel_rfl
theorem mixStops (w : World) (hT : T8 w) (hD : DB w) : Calls Tryz.prog 18 #[.string ⟨#[97, 215, 144, 215, 145, 98]⟩, .agg #[.int .i64 0, .int .i64 6, .int .u8 0, .int .i64 99, .int .i8 0], .agg #[.int .i64 0, .bool false, .int .i8 0, .bool false, .bool false]] w fun e w' => ∃ a c, e = .returned (.slice a 7 c) ∧ OwnS caE 49 w' w.heap.size (.slice a 7 c) qMix ∧ Below w.heap.size w w' := by
 have h := Stops_any sMix (by decide) 0 6 0 99 0 0 0 false false false w hT hD (lvB_of mix_lv) mix_lt mix_pos (smallB_of mix_small)
 rw [show stopsI (layI sMix 0 0 false false false 0 6 99) 0 = qMix from mix_stops] at h
 exact h
theorem mixCells (w : World) (hT : T8 w) (hD : DB w) : Calls Tryz.prog 12 #[.string ⟨#[97, 215, 144, 215, 145, 98]⟩, .agg #[.int .i64 0, .int .i64 6, .int .u8 0, .int .i64 99, .int .i8 0], .agg #[.int .i64 0, .bool false, .int .i8 0, .bool false, .bool false]] w fun e w' => ∃ a c, e = .returned (.slice a 4 c) ∧ OwnS ceE 32 w' w.heap.size (.slice a 4 c) (cellsI rMix) ∧ Below w.heap.size w w' := by
 have h := Cells_any sMix (by decide) 0 6 0 99 0 0 0 false false false w hT hD (lvB_of mix_lv) (goodB_of mix_good)
 rw [show (cellsI (layI sMix 0 0 false false false 0 6 99)).length = 4 from mix_len] at h
 exact h
set_option maxRecDepth 100000 in
theorem wideCells (w : World) (hT : T8 w) (hD : DB w) : Calls Tryz.prog 12 #[.string ⟨#[97, 228, 184, 150, 255]⟩, .agg #[.int .i64 0, .int .i64 5, .int .u8 0, .int .i64 9, .int .i8 0], .agg #[.int .i64 0, .bool false, .int .i8 0, .bool false, .bool false]] w fun e w' => ∃ a c, e = .returned (.slice a 7 c) ∧ OwnS ceE 32 w' w.heap.size (.slice a 7 c) (cellsI rWide) ∧ Below w.heap.size w w' := by
 have h := Cells_any sWide (by decide) 0 5 0 9 0 0 0 false false false w hT hD (lvB_of wide_lv) (goodB_of wide_good)
 rw [show (cellsI (layI sWide 0 0 false false false 0 5 9)).length = 7 from wide_len] at h
 exact h
theorem mixTexts (base c : Nat) (a : Option Addr) (w : World) (hO : OwnS ceE 32 w base (.slice a 4 c) (cellsI rMix)) : Calls Tryz.prog 22 #[.slice a 4 c] w fun e w' => e = .returned (.string ⟨#[97, 215, 145, 215, 144, 98]⟩) ∧ w = w' := by
 have h := texts_any base 4 c a (cellsI rMix) mix_len (by decide) (fun x hx => by have := List.all_eq_true.1 mix_short x hx; simpa using this) w hO
 rw [mix_texts] at h
 exact h
theorem wideTexts (base c : Nat) (a : Option Addr) (w : World) (hO : OwnS ceE 32 w base (.slice a 7 c) (cellsI rWide)) : Calls Tryz.prog 22 #[.slice a 7 c] w fun e w' => e = .returned (.string ⟨#[97, 228, 184, 150, 46, 60, 102, 102, 62]⟩) ∧ w = w' := by
 have h := texts_any base 7 c a (cellsI rWide) wide_len (by decide) (fun x hx => by have := List.all_eq_true.1 wide_short x hx; simpa using this) w hO
 rw [wide_texts] at h
 exact h
theorem mixPlaceF (w : World) (hT : T8 w) (hD : DB w) : Calls Tryz.prog 20 #[.string ⟨#[97, 215, 144, 215, 145, 98]⟩, .agg #[.int .i64 0, .int .i64 6, .int .u8 0, .int .i64 99, .int .i8 0], .agg #[.int .i64 0, .bool false, .int .i8 0, .bool false, .bool false], .agg #[.int .i64 1, .bool false, .int .i64 0]] w fun e w' => e = .returned (.int .i64 3) ∧ Below w.heap.size w w' := by
 have h := Place_any sMix (by decide) 0 6 0 99 0 0 0 false false false 1 0 false w hT hD (lvB_of mix_lv)
 rw [show placeI (layI sMix 0 0 false false false 0 6 99) 1 false = 3 from mix_place.1] at h
 exact h
theorem mixPlaceT (w : World) (hT : T8 w) (hD : DB w) : Calls Tryz.prog 20 #[.string ⟨#[97, 215, 144, 215, 145, 98]⟩, .agg #[.int .i64 0, .int .i64 6, .int .u8 0, .int .i64 99, .int .i8 0], .agg #[.int .i64 0, .bool false, .int .i8 0, .bool false, .bool false], .agg #[.int .i64 1, .bool true, .int .i64 0]] w fun e w' => e = .returned (.int .i64 1) ∧ Below w.heap.size w w' := by
 have h := Place_any sMix (by decide) 0 6 0 99 0 0 0 false false false 1 0 true w hT hD (lvB_of mix_lv)
 rw [show placeI (layI sMix 0 0 false false false 0 6 99) 1 true = 1 from mix_place.2] at h
 exact h
theorem mixHit (w : World) (hT : T8 w) (hD : DB w) : Calls Tryz.prog 19 #[.string ⟨#[97, 215, 144, 215, 145, 98]⟩, .agg #[.int .i64 0, .int .i64 6, .int .u8 0, .int .i64 99, .int .i8 0], .agg #[.int .i64 0, .bool false, .int .i8 0, .bool false, .bool false], .int .i64 2] w fun e w' => ∃ k, e = .returned (.agg #[.int .i64 3, .bool k, .int .i64 (-1)]) ∧ Below w.heap.size w w' := by
 have h := Hit_any sMix (by decide) 0 6 0 99 0 0 0 2 false false false w hT hD (lvB_of mix_lv) mix_lt mix_pos (smallB_of mix_small) (smallB_of mix_small2)
 rw [show (hitI (layI sMix 0 0 false false false 0 6 99) 0 2).a = 3 from mix_hit] at h
 exact h.mono fun e w' ⟨h1, h2⟩ => ⟨_, h1, h2⟩
set_option maxRecDepth 100000 in
set_option maxHeartbeats 4000000 in
theorem alive_any (w : World) (hT : T8 w) (hD : DB w) :
 Calls Tryz.prog 14 #[] w fun e w' => e = .returned (.bool true) ∧ Below w.heap.size w w' := by
 have HWH : Hid (∀ W, Calls Tryz.prog 15 #[.string ⟨#[97, 215, 144, 215, 145, 98]⟩, .int .i64 99, .int .i8 0] W fun e w' => e = .returned (.agg #[.int .i64 0, .int .i64 6, .int .u8 0, .int .i64 99, .int .i8 0]) ∧ Below W.heap.size W w') := Lib.hid fun W => whole_any sMix 99 0 W
 have HTD : Hid (∀ W, Below w.heap.size w W → T8 W ∧ DB W) := Lib.hid fun W h => ⟨hT.below rfl h, hD.below h⟩
 clear hT hD
 go_enter Tryz.func14, Tryz.ntmps14
 go_upto_region 2 with (fail)
 have hb1 : Below w.heap.size w (w.alloc (.cells #[.int .i64 0, .bool false, .int .i8 0, .bool false, .bool false] 26)) := (Below.refl _ _).alloc (Nat.le_refl _) _
 have hx1 := World.alloc_heap_new w (.cells #[.int .i64 0, .bool false, .int .i8 0, .bool false, .bool false] 26)
 generalize w.alloc (.cells #[.int .i64 0, .bool false, .int .i8 0, .bool false, .bool false] 26) = W1 at hb1 hx1 ⊢
 obtain ⟨A, hA⟩ : ∃ A, w.heap.size = A := ⟨_, rfl⟩
 have HB1 := Lib.hid hb1
 rw [hA] at hx1 ⊢
 have HX1 := Lib.hid hx1
 have hA1 : A < W1.heap.size := (Array.getElem?_eq_some_iff.1 hx1).1
 clear hb1 hx1
 go_upto_region 3 with (go_at_call 15; refine (HWH.out _).mono ?_; rintro e w2 ⟨rfl, hb2⟩)
 have hA3 : AlS w A w2.heap.size (w2.alloc (.cells #[.int .i64 0, .int .i64 6, .int .u8 0, .int .i64 99, .int .i8 0] 24)) := by
  have hba := (Below.refl w2.heap.size w2).alloc (Nat.le_refl _) (.cells #[.int .i64 0, .int .i64 6, .int .u8 0, .int .i64 99, .int .i8 0] 24)
  have h12 := HB1.out.trans (hb2.mono HB1.out.size)
  exact ⟨h12.trans (hba.mono h12.size), (hba.block A (Nat.lt_of_lt_of_le hA1 hb2.size)).trans ((hb2.block A hA1).trans HX1.out), World.alloc_heap_new w2 _⟩
 generalize w2.alloc (.cells #[.int .i64 0, .int .i64 6, .int .u8 0, .int .i64 99, .int .i8 0] 24) = W3 at hA3 ⊢
 obtain ⟨P, hP⟩ : ∃ P, w2.heap.size = P := ⟨_, rfl⟩
 rw [hP] at hA3 ⊢
 clear hb2
 have HST : Hid (∀ W, AlS w A P W → Calls Tryz.prog 18 #[.string ⟨#[97, 215, 144, 215, 145, 98]⟩, .agg #[.int .i64 0, .int .i64 6, .int .u8 0, .int .i64 99, .int .i8 0], .agg #[.int .i64 0, .bool false, .int .i8 0, .bool false, .bool false]] W fun e w' => ∃ a c, e = .returned (.slice a 7 c) ∧ OwnS caE 49 w' W.heap.size (.slice a 7 c) qMix ∧ AlS w A P w') :=
  Lib.hid fun W h => (mixStops W (HTD.out W h.bel).1 (HTD.out W h.bel).2).mono fun e w' ⟨a, c, h1, h2, h3⟩ => ⟨a, c, h1, h2, h.below h3⟩
 have HCE : Hid (∀ W, AlS w A P W → Calls Tryz.prog 12 #[.string ⟨#[97, 215, 144, 215, 145, 98]⟩, .agg #[.int .i64 0, .int .i64 6, .int .u8 0, .int .i64 99, .int .i8 0], .agg #[.int .i64 0, .bool false, .int .i8 0, .bool false, .bool false]] W fun e w' => ∃ a c, e = .returned (.slice a 4 c) ∧ OwnS ceE 32 w' W.heap.size (.slice a 4 c) (cellsI rMix) ∧ AlS w A P w' ∧ Below W.heap.size W w') :=
  Lib.hid fun W h => (mixCells W (HTD.out W h.bel).1 (HTD.out W h.bel).2).mono fun e w' ⟨a, c, h1, h2, h3⟩ => ⟨a, c, h1, h2, h.below h3, h3⟩
 have HCW : Hid (∀ W, AlS w A P W → Calls Tryz.prog 12 #[.string ⟨#[97, 228, 184, 150, 255]⟩, .agg #[.int .i64 0, .int .i64 5, .int .u8 0, .int .i64 9, .int .i8 0], .agg #[.int .i64 0, .bool false, .int .i8 0, .bool false, .bool false]] W fun e w' => ∃ a c, e = .returned (.slice a 7 c) ∧ OwnS ceE 32 w' W.heap.size (.slice a 7 c) (cellsI rWide) ∧ AlS w A P w') :=
  Lib.hid fun W h => (wideCells W (HTD.out W h.bel).1 (HTD.out W h.bel).2).mono fun e w' ⟨a, c, h1, h2, h3⟩ => ⟨a, c, h1, h2, h.below h3⟩
 have HPF : Hid (∀ W, AlS w A P W → Calls Tryz.prog 20 #[.string ⟨#[97, 215, 144, 215, 145, 98]⟩, .agg #[.int .i64 0, .int .i64 6, .int .u8 0, .int .i64 99, .int .i8 0], .agg #[.int .i64 0, .bool false, .int .i8 0, .bool false, .bool false], .agg #[.int .i64 1, .bool false, .int .i64 0]] W fun e w' => e = .returned (.int .i64 3) ∧ AlS w A P w' ∧ Below W.heap.size W w') :=
  Lib.hid fun W h => (mixPlaceF W (HTD.out W h.bel).1 (HTD.out W h.bel).2).mono fun e w' ⟨h1, h2⟩ => ⟨h1, h.below h2, h2⟩
 have HPT : Hid (∀ W, AlS w A P W → Calls Tryz.prog 20 #[.string ⟨#[97, 215, 144, 215, 145, 98]⟩, .agg #[.int .i64 0, .int .i64 6, .int .u8 0, .int .i64 99, .int .i8 0], .agg #[.int .i64 0, .bool false, .int .i8 0, .bool false, .bool false], .agg #[.int .i64 1, .bool true, .int .i64 0]] W fun e w' => e = .returned (.int .i64 1) ∧ AlS w A P w' ∧ Below W.heap.size W w') :=
  Lib.hid fun W h => (mixPlaceT W (HTD.out W h.bel).1 (HTD.out W h.bel).2).mono fun e w' ⟨h1, h2⟩ => ⟨h1, h.below h2, h2⟩
 have HHI : Hid (∀ W, AlS w A P W → Calls Tryz.prog 19 #[.string ⟨#[97, 215, 144, 215, 145, 98]⟩, .agg #[.int .i64 0, .int .i64 6, .int .u8 0, .int .i64 99, .int .i8 0], .agg #[.int .i64 0, .bool false, .int .i8 0, .bool false, .bool false], .int .i64 2] W fun e w' => ∃ k, e = .returned (.agg #[.int .i64 3, .bool k, .int .i64 (-1)]) ∧ AlS w A P w') :=
  Lib.hid fun W h => (mixHit W (HTD.out W h.bel).1 (HTD.out W h.bel).2).mono fun e w' ⟨k, h1, h2⟩ => ⟨k, h1, h.below h2⟩
 have HW2 : Hid (∀ W, AlS w A P W → Calls Tryz.prog 15 #[.string ⟨#[97, 228, 184, 150, 255]⟩, .int .i64 9, .int .i8 0] W fun e w' => e = .returned (.agg #[.int .i64 0, .int .i64 5, .int .u8 0, .int .i64 9, .int .i8 0]) ∧ AlS w A P w') := Lib.hid fun W h => (whole_any sWide 9 0 W).mono fun e w' ⟨h1, h2⟩ => ⟨h1, h.below h2⟩
 obtain ⟨c0, c1, c2, c3, c4, c5, c6, c7, c8, c9⟩ := hA3.cells
 go_upto_region 4 with (go_at_call 18; refine (HST.out _ hA3).mono ?_; rintro e w4 ⟨sa, sc, rfl, hO4, hA4⟩; obtain ⟨d0, d1, d2, d3, d4, d5, d6, d7, d8, d9⟩ := hA4.cells)
 clear c0 c1 c2 c3 c4 c5 c6 c7 c8 c9
 have HO4 := Lib.hid hO4
 have HA4 := Lib.hid hA4
 have hb4 : (0 : Int) ≤ 1 := by omega
 obtain ⟨G, eG, _, hGl, hsc⟩ := own_cells (n := 7) (by have h := hO4; unfold OwnS at h; exact h) (by decide)
 subst eG
 have hKS : ∀ W, Below w4.heap.size w4 W → W.cell? ⟨G, 3, none⟩ = some (.int .i64 1) ∧ W.cell? ⟨G, 4, none⟩ = some (.bool true) ∧ W.cell? ⟨G, 5, none⟩ = some (.int .i64 (-1)) := fun W hb =>
  ⟨cell_bl hb hGl ((hsc 3 (by decide)).trans rfl), cell_bl hb hGl ((hsc 4 (by decide)).trans rfl), cell_bl hb hGl ((hsc 5 (by decide)).trans rfl)⟩
 have HKS := Lib.hid hKS
 clear hKS hsc hO4 HST
 have HPL : Hid (∀ (back : Bool) (W : World), (AlS w A P W ∧ Below w4.heap.size w4 W) → Calls Tryz.prog 20 #[.string ⟨#[97, 215, 144, 215, 145, 98]⟩, .agg #[.int .i64 0, .int .i64 6, .int .u8 0, .int .i64 99, .int .i8 0], .agg #[.int .i64 0, .bool false, .int .i8 0, .bool false, .bool false], .agg #[.int .i64 1, .bool back, .int .i64 0]] W fun e w' => e = .returned (.int .i64 (if back = true then 1 else 3)) ∧ AlS w A P w' ∧ Below w4.heap.size w4 w') := Lib.hid fun back W h => by
  cases back
  ·exact (HPF.out W h.1).mono fun e w' ⟨h1, h2, h3⟩ => ⟨by rw [h1]; rfl, h2, h.2.trans (h3.mono h.2.size)⟩
  ·exact (HPT.out W h.1).mono fun e w' ⟨h1, h2, h3⟩ => ⟨by rw [h1]; rfl, h2, h.2.trans (h3.mono h.2.size)⟩
 clear HPF HPT
 go_upto_region 5 with (first
  | (go_at_call 12; refine (HCE.out _ HA4.out).mono ?_; rintro e w5 ⟨a5, c5', rfl, hO5, hA5, hb5⟩; have hK5 : AlS w A P w5 ∧ Below w4.heap.size w4 w5 := ⟨hA5, hb5⟩; have HTX := Lib.hid (mixTexts _ _ _ _ hO5); obtain ⟨p0, p1, p2, p3, p4, p5, p6, p7, p8, p9⟩ := hA5.cells)
  | (go_at_call 22; refine HTX.out.mono ?_; rintro e w6 ⟨rfl, rfl⟩)
  | (go_at_call 20; refine (HPL.out _ _ (by assumption)).mono ?_; rintro e w7 ⟨rfl, hK7⟩; obtain ⟨q0, q1, q2, q3, q4, q5, q6, q7, q8, q9⟩ := hK7.1.cells; obtain ⟨s3, s4, s5⟩ := HKS.out w7 hK7.2))
 have hA7 := hK7.1
 have HA7 := Lib.hid hA7
 clear d0 d1 d2 d3 d4 d5 d6 d7 d8 d9 HKS HPL HCE HTX hA5 hK5 hK7 hO5 s3 s4 s5
 obtain ⟨S, hSi, hSo⟩ : ∃ S : World → Prop, (∀ W : World, AlS w A P W → S W) ∧ (∀ W : World, S W → AlS w A P W) := ⟨fun W => AlS w A P W, fun _ h => h, fun _ h => h⟩
 have HSi := Lib.hid hSi
 have hne' : Nonempty (WIn S) := ⟨⟨_, hSi _ hA7⟩⟩
 have c0 : ∀ q : WIn S, q.w.cell? ⟨A, 0, none⟩ = some (.int .i64 0) := fun q => (hSo _ q.h).cells.1
 have c1 : ∀ q : WIn S, q.w.cell? ⟨A, 1, none⟩ = some (.bool false) := fun q => (hSo _ q.h).cells.2.1
 have c2 : ∀ q : WIn S, q.w.cell? ⟨A, 2, none⟩ = some (.int .i8 0) := fun q => (hSo _ q.h).cells.2.2.1
 have c3 : ∀ q : WIn S, q.w.cell? ⟨A, 3, none⟩ = some (.bool false) := fun q => (hSo _ q.h).cells.2.2.2.1
 have c4 : ∀ q : WIn S, q.w.cell? ⟨A, 4, none⟩ = some (.bool false) := fun q => (hSo _ q.h).cells.2.2.2.2.1
 have c5 : ∀ q : WIn S, q.w.cell? ⟨P, 0, none⟩ = some (.int .i64 0) := fun q => (hSo _ q.h).cells.2.2.2.2.2.1
 have c6 : ∀ q : WIn S, q.w.cell? ⟨P, 1, none⟩ = some (.int .i64 6) := fun q => (hSo _ q.h).cells.2.2.2.2.2.2.1
 have c7 : ∀ q : WIn S, q.w.cell? ⟨P, 2, none⟩ = some (.int .u8 0) := fun q => (hSo _ q.h).cells.2.2.2.2.2.2.2.1
 have c8 : ∀ q : WIn S, q.w.cell? ⟨P, 3, none⟩ = some (.int .i64 99) := fun q => (hSo _ q.h).cells.2.2.2.2.2.2.2.2.1
 have c9 : ∀ q : WIn S, q.w.cell? ⟨P, 4, none⟩ = some (.int .i8 0) := fun q => (hSo _ q.h).cells.2.2.2.2.2.2.2.2.2
 clear hSi hSo
 refine wp_region_segG S [([0, 1, 2, 3], 4), ([5, 6, 7, 8, 10], 9), ([], 11), ([], 12)] [13, 14, 15] (by kernel_rfl) (by kernel_rfl) (HSi.out _ hA7.drew) ?_
 simp only [segHG, opsAt, List.filterMap_cons, List.filterMap_nil, List.getElem?_toArray, List.getElem?_cons_zero, List.getElem?_cons_succ]
 show wpQuiet _ _ _ _ [_, _, _, _] _
 repeat (go_big_quiet_step (fail))
 refine wpQuiet_nil ?_
 have hA7d := HA7.out.drew
 refine ⟨fun o ho => by cases ho; rfl, ?_⟩
 intro K hK
 have HKK := Lib.hid hK
 clear hK
 show wpList _ _ _ [_] _ _
 go_wp2_with (go_at_call 19; refine (HHI.out _ hA7d).mono ?_; rintro e w8 ⟨k, rfl, hA8⟩)
 refine HKK.out _ _ (HSi.out _ hA8) ?_
 clear HKK hA7 hA7d HHI
 have hcf := fun (x y z : Value) (w : World) => ca_f0 x y z w
 show wpQuiet _ _ _ _ [_, _, _, _, _] _
 repeat (go_big_quiet_step (fail))
 refine wpQuiet_nil ?_
 refine ⟨fun o ho => by cases ho; rfl, ?_⟩
 intro K hK
 have HKK := Lib.hid hK
 clear hK
 show wpList _ _ _ [_] _ _
 go_wp2_with (go_at_call 15; refine (HW2.out _ hA8).mono ?_; rintro e w9 ⟨rfl, hA9⟩)
 refine HKK.out _ _ (HSi.out _ hA9) ?_
 clear HKK hA8 HW2
 show wpQuiet _ _ _ _ [] _
 refine wpQuiet_nil ?_
 refine ⟨fun o ho => by cases ho; rfl, ?_⟩
 intro K hK
 have HKK := Lib.hid hK
 clear hK
 show wpList _ _ _ [_] _ _
 go_wp2_with (go_at_call 12; refine (HCW.out _ hA9).mono ?_; rintro e w10 ⟨a, c, rfl, hO10, hA10⟩)
 refine HKK.out _ _ (HSi.out _ hA10) ?_
 clear HKK hA9 HCW
 have HTX := Lib.hid (wideTexts _ _ _ _ hO10)
 show wpQuiet _ _ _ _ [] _
 refine wpQuiet_nil ?_
 refine ⟨fun o ho => by cases ho; rfl, ?_⟩
 intro K hK
 have HKK := Lib.hid hK
 clear hK
 show wpList _ _ _ [_] _ _
 go_wp2_with (go_at_call 22; refine HTX.out.mono ?_; rintro e w11 ⟨rfl, rfl⟩)
 refine HKK.out _ _ (HSi.out _ hA10) ?_
 clear HKK HTX
 show wpQuiet _ _ _ _ [_, _, _] _
 repeat (go_big_quiet_step (fail))
 refine wpQuiet_nil ?_
 refine NoPanic.normal ?_
 clear c0 c1 c2 c3 c4 c5 c6 c7 c8 c9 hne' HSi
 go_wp2_with (fail)
 go_ret
 exact ⟨rfl, hA10.bel⟩
end
section
def kS1 : ByteArray := ⟨#[255, 1]⟩
def kS2 : ByteArray := ⟨#[215, 144, 40, 97, 41, 215, 145]⟩
def kS3 : ByteArray := ⟨#[97, 204, 129, 10]⟩
def kS4 : ByteArray := ⟨#[97, 32, 32]⟩
def kS5 : ByteArray := ⟨#[204, 129, 9]⟩
def kS6 : ByteArray := ⟨#[228, 184, 150]⟩
def kS7 : ByteArray := ⟨#[97, 41, 215, 144]⟩
def kS8 : ByteArray := ⟨#[97, 98]⟩
def kR (s : ByteArray) (wd : Int) : LaidR := layI s 0 0 false false false 0 s.size wd
def kR0 : LaidR := layI ⟨#[]⟩ 0 0 false false false 0 0 0
def kR7 : LaidR := layI kS7 0 2 false false false 1 9 9
def kR8 : LaidR := layI kS8 0 2 false false false 0 2 9
set_option maxRecDepth 100000
theorem k1 : textsF (cellsI (kR kS1 9)) ⟨#[]⟩ = ⟨#[60, 102, 102, 62, 94, 65]⟩ := by kernel_rfl
theorem k2 : textsF (cellsI (kR kS2 9)) ⟨#[]⟩ = ⟨#[215, 145, 40, 97, 41, 215, 144]⟩ := by kernel_rfl
theorem k3 : textsF (cellsI (kR kS3 9)) ⟨#[]⟩ = ⟨#[97, 204, 129]⟩ := by kernel_rfl
theorem k4 : textsF (cellsI (kR kS4 2)) ⟨#[]⟩ = ⟨#[97, 32]⟩ := by kernel_rfl
theorem k5 : textsF (cellsI (kR kS5 9)) ⟨#[]⟩ = ⟨#[226, 151, 140, 204, 129, 32, 32, 32, 32, 32, 32, 32]⟩ := by kernel_rfl
theorem k_place : [0, 1, 3, 5, 6, 2, -3, 99].map (fun c => placeI rMix c false) = [0, 3, 2, 3, 4, 3, 0, 4] := by kernel_rfl
theorem k_back : [1, 3, 5, 6, 0].map (fun c => placeI rMix c true) = [1, 2, 1, 4, 0] := by kernel_rfl
theorem k_nil : (stopsI kR0 0).length = 1 ∧ placeI kR0 4 false = 0 := ⟨by kernel_rfl, by kernel_rfl⟩
theorem k_x : cellsI (kR kS6 9) = [⟨kS6, 0, 0, 3, false⟩, ⟨⟨#[]⟩, 1, 0, 3, false⟩] := by kernel_rfl
theorem k_y : (cellsI kR7).map (fun c => (c.text, c.right)) = [(⟨#[215, 144]⟩, true), (⟨#[40]⟩, true)] := by kernel_rfl
theorem k_z : placeI kR8 2 false = 0 := by kernel_rfl
end
section
open Go.RowKit Go.Proofs Go.Shelf
attribute [local go_sem] Oper.semAt_some
def encS (s : St) : Int := if s.back = true then -(s.a : Int) else s.a
theorem ca_cells {w : World} {base n c : Nat} {a : Option Addr} {l : List St} (hl : l.length = n) (hO : OwnS caE 49 w base (.slice a n c) l) (i : Nat) (x : St) (hx : l[i]? = some x) :
 ∃ G, a = some ⟨G, 0, none⟩ ∧ w.cell? ⟨G, i * 3, none⟩ = some (.int .i64 x.a) ∧ w.cell? ⟨G, i * 3 + 1, none⟩ = some (.bool x.back) ∧ w.cell? ⟨G, i * 3 + 2, none⟩ = some (.int .i64 (-1)) := by
 subst hl
 obtain ⟨G, eG, _, _, hc, _⟩ := hO.at i x hx
 exact ⟨G, eG, hc 0 _ rfl, hc 1 _ rfl, hc 2 _ rfl⟩
set_option maxRecDepth 100000 in
set_option maxHeartbeats 4000000 in
theorem stopsL_any (fin : Int) (Q : List St) (hQ : stopsI rMix fin = Q) (hn : Q.length = 7) (h20 : (rawS rMix fin).length < 20) (hne : 0 < (rawS rMix fin).length) (hsx : smallX (rawS rMix fin))
 (hpos : ∀ q ∈ Q, q.a ≤ 1000 ∧ (q.back = true → 0 < q.a)) (H cap : Nat) (w : World) (hH : H < w.heap.size) (hcell : ∀ i q, Q[i]? = some q → w.cell? ⟨H, i, none⟩ = some (.int .i64 (encS q))) (hT : T8 w) (hD : DB w) :
 Calls Tryz.prog 23 #[.int .i8 fin, .slice (some ⟨H, 0, none⟩) 7 cap] w fun e w' => e = .returned (.bool true) ∧ Below w.heap.size w w' := by
 have HWH : Hid (∀ W, Calls Tryz.prog 15 #[.string ⟨#[97, 215, 144, 215, 145, 98]⟩, .int .i64 99, .int .i8 fin] W fun e w' => e = .returned (.agg #[.int .i64 0, .int .i64 6, .int .u8 0, .int .i64 99, .int .i8 fin]) ∧ Below W.heap.size W w') := Lib.hid fun W => whole_any sMix 99 fin W
 have HST : Hid (∀ W, Below w.heap.size w W → Calls Tryz.prog 18 #[.string ⟨#[97, 215, 144, 215, 145, 98]⟩, .agg #[.int .i64 0, .int .i64 6, .int .u8 0, .int .i64 99, .int .i8 fin], .agg #[.int .i64 0, .bool false, .int .i8 0, .bool false, .bool false]] W fun e w' => ∃ a c, e = .returned (.slice a 7 c) ∧ OwnS caE 49 w' W.heap.size (.slice a 7 c) Q ∧ Below W.heap.size W w') := Lib.hid fun W hb => by
  have h := Stops_any sMix (by decide) 0 6 0 99 fin 0 0 false false false W (hT.below rfl hb) (hD.below hb) (lvB_of mix_lv) h20 hne hsx
  rw [show stopsI (layI sMix 0 0 false false false 0 6 99) fin = Q from hQ, hn] at h
  exact h
 have HCL := Lib.hid hcell
 have HPS := Lib.hid hpos
 clear hT hD hcell hpos hsx hne h20 hQ
 go_enter Tryz.func23, Tryz.ntmps23
 go_upto_region 2 with (first
  | (go_at_call 15; refine (HWH.out _).mono ?_; rintro e w1 ⟨rfl, hb1⟩; have HS1 := Lib.hid (HST.out w1 hb1))
  | (go_at_call 18; refine HS1.out.mono ?_; rintro e w2 ⟨a, c, rfl, hO2, hb2⟩))
 have hb12 : Below w.heap.size w w2 := hb1.trans (hb2.mono hb1.size)
 have HB2 := Lib.hid hb12
 have HO2 := Lib.hid hO2
 clear hb1 hb2 hb12 hO2 HWH HST HS1
 go_upto_block 0 with (fail)
 go_wp2_with (fail)
 go_loopw [6, 7] (fun u6 _ wx => ∃ k : Nat, k ≤ 7 ∧ u6 = .int .i64 k ∧ Below w2.heap.size w2 wx) (fun u6 _ _ => 7 - (intOf u6).toNat)
 case atStart => exact ⟨0, Nat.zero_le _, rfl, Below.refl _ _⟩
 case round =>
  obtain ⟨k, hk, rfl, hb⟩ := hrel
  have HBr := Lib.hid hb
  by_cases hlt : k < 7
  ·obtain ⟨q, hq⟩ : ∃ q, Q[k]? = some q := ⟨_, List.getElem?_eq_getElem (by omega)⟩
   have hbw : Below w.heap.size w wr := HB2.out.trans (hb.mono HB2.out.size)
   have hc0 : wr.cell? ⟨H, k, none⟩ = some (.int .i64 (encS q)) := cell_bl hbw hH (HCL.out k q hq)
   obtain ⟨hqa, hqb⟩ := HPS.out q (List.mem_of_getElem? hq)
   obtain ⟨e, he⟩ : ∃ e, encS q = e := ⟨_, rfl⟩
   rw [he] at hc0
   have hkn : (k : Int) < 7 := by omega
   have hwk : IntKind.i64.wrap ((k : Int) + 1) = (k : Int) + 1 := by rw [IntKind.wrap_i64]; omega
   have HQK := Lib.hid hq
   have HHW : H < wr.heap.size := Nat.lt_of_lt_of_le hH hbw.size
   clear hb hbw hq
   go_upto_region 8 with (fail)
   have hb5 : Below wr.heap.size wr (wr.alloc (.cells #[.int .i64 e, .bool false, .int .i64 (-1)] 49)) := (Below.refl _ _).alloc (Nat.le_refl _) _
   have hx5 := World.alloc_heap_new wr (.cells #[.int .i64 e, .bool false, .int .i64 (-1)] 49)
   generalize wr.alloc (.cells #[.int .i64 e, .bool false, .int .i64 (-1)] 49) = W5 at hb5 hx5 ⊢
   obtain ⟨B, hB⟩ : ∃ B, wr.heap.size = B := ⟨_, rfl⟩
   rw [hB] at hx5 hb5 HHW ⊢
   have hc5 : W5.cell? ⟨H, k, none⟩ = some (.int .i64 e) := cell_bl hb5 HHW hc0
   have HB5 := Lib.hid (HBr.out.trans (hb5.mono (hB ▸ HBr.out.size)))
   have HX5 := Lib.hid hx5
   clear hc0 hb5 hx5
   cases hqk : q.back with
   | true =>
     have hea : e = -(q.a : Int) := by rw [← he]; unfold encS; rw [if_pos hqk]
     have hqp := hqb hqk
     have hd : decide (e < 0) = true := decide_eq_true (by omega)
     have hng : IntKind.i64.wrap (-e) = (q.a : Int) := by rw [hea, IntKind.wrap_i64]; omega
     have ff : ∀ j, W5.frozen? ⟨B, j, none⟩ = false := fun j => by simp [World.frozen?, HX5.out]
     have f0 := ff 0
     have f1 := ff 1
     have f2 := ff 2
     have x0 : W5.cell? ⟨B, 0, none⟩ = some (.int .i64 e) := by simp [World.cell?, HX5.out]
     have x1 : W5.cell? ⟨B, 1, none⟩ = some (.bool false) := by simp [World.cell?, HX5.out]
     have x2 : W5.cell? ⟨B, 2, none⟩ = some (.int .i64 (-1)) := by simp [World.cell?, HX5.out]
     have hy : (((W5.setCell ⟨B, 0, none⟩ (.int .i64 q.a)).setCell ⟨B, 1, none⟩ (.bool true)).setCell ⟨B, 2, none⟩ (.int .i64 (-1))).heap[B]? = some (.cells #[.int .i64 q.a, .bool true, .int .i64 (-1)] 49 (0, 0)) := set_at (i := 2) (set_at (i := 1) (set_at (i := 0) HX5.out (.int .i64 q.a)) (.bool true)) (.int .i64 (-1))
     have hbB : w2.heap.size ≤ B := hB ▸ HBr.out.size
     have key : ∀ {X : World} (j : Nat) (v : Value), Below w2.heap.size w2 X → Below w2.heap.size w2 (X.setCell ⟨B, j, none⟩ v) := fun j v hX => hX.setCell (p := ⟨B, j, none⟩) hbB v
     have hb7 := key 2 (.int .i64 (-1)) (key 1 (.bool true) (key 0 (.int .i64 q.a) HB5.out))
     have HY := Lib.hid hy
     have HB7 := Lib.hid hb7
     have HEA := Lib.hid hea
     clear hea hy hb7 key ff hqb he hB hbB
     go_upto_region 10 with (fail)
     clear x0 x1 x2 f0 f1 f2 hc5 hng hd
     generalize ((W5.setCell ⟨B, 0, none⟩ (.int .i64 q.a)).setCell ⟨B, 1, none⟩ (.bool true)).setCell ⟨B, 2, none⟩ (.int .i64 (-1)) = W7 at HY HB7 ⊢
     obtain ⟨G, eG, s0, s1, s2⟩ := ca_cells hn (HO2.out.keep HB7.out) k q HQK.out
     subst eG
     rw [hqk] at s1
     have x0 : W7.cell? ⟨B, 0, none⟩ = some (.int .i64 q.a) := by simp [World.cell?, HY.out]
     have x1 : W7.cell? ⟨B, 1, none⟩ = some (.bool true) := by simp [World.cell?, HY.out]
     have x2 : W7.cell? ⟨B, 2, none⟩ = some (.int .i64 (-1)) := by simp [World.cell?, HY.out]
     clear hqk
     go_quiet (fail)
     go_wp2_with (fail)
     go_roundw
     case rel => exact ⟨k + 1, by omega, by go_num, bl_drewN HB7.out _⟩
     case measure => simp [intOf]; omega
   | false =>
     have hea : e = (q.a : Int) := by rw [← he]; unfold encS; rw [hqk]; rfl
     have hd : decide (e < 0) = false := decide_eq_false (by omega)
     obtain ⟨G, eG, s0, s1, s2⟩ := ca_cells hn (HO2.out.keep HB5.out) k q HQK.out
     subst eG
     rw [hqk] at s1
     subst hea
     have x0 : W5.cell? ⟨B, 0, none⟩ = some (.int .i64 q.a) := by simp [World.cell?, HX5.out]
     have x1 : W5.cell? ⟨B, 1, none⟩ = some (.bool false) := by simp [World.cell?, HX5.out]
     have x2 : W5.cell? ⟨B, 2, none⟩ = some (.int .i64 (-1)) := by simp [World.cell?, HX5.out]
     have hd' : decide (q.a < 0) = false := decide_eq_false (by omega)
     clear he hqb hqk
     go_upto_region 10 with (fail)
     go_quiet (fail)
     go_wp2_with (fail)
     go_roundw
     case rel => exact ⟨k + 1, by omega, by go_num, bl_drewN HB5.out _⟩
     case measure => simp [intOf]; omega
  ·obtain rfl : k = 7 := by omega
   go_wp2_with (fail)
   go_ret
   exact ⟨rfl, HB2.out.trans (HBr.out.mono HB2.out.size)⟩
end
section
theorem ascii_app (a b : ByteArray) : asciiB (a ++ b) = (asciiB a && asciiB b) := by
 unfold asciiB
 rw [show (a ++ b).data = a.data ++ b.data from ByteArray.data_append, Array.toList_append, List.all_append]
theorem ascii_nums (l : List Int) (h : ∀ x ∈ l, 0 ≤ x ∧ x < 128) : asciiB (strOfNums l) = true := by
 unfold asciiB strOfNums
 rw [List.all_eq_true]
 intro b hb
 simp only [List.mem_map] at hb
 obtain ⟨x, hx, rfl⟩ := hb
 have := h x hx
 have e : (UInt8.ofNat x.toNat).toNat = x.toNat := by
  rw [UInt8.toNat_ofNat']
  omega
 simp only [e, decide_eq_true_eq]
 omega
theorem digI_bd (d : Nat) (h : d < 16) : 0 ≤ digI d ∧ digI d < 128 := by
 unfold digI
 split <;> omega
theorem hexF_bd : ∀ (f u : Nat) (acc : List Int), (∀ x ∈ acc, 0 ≤ x ∧ x < 128) → ∀ x ∈ hexF f u acc, 0 ≤ x ∧ x < 128
 | 0, u, acc, h, x, hx => by
   rw [hexF] at hx
   rcases List.mem_cons.1 hx with rfl | hx
   ·exact digI_bd _ (by omega)
   ·exact h x hx
 | f + 1, u, acc, h, x, hx => by
   have hc : ∀ y ∈ digI (u % 16) :: acc, 0 ≤ y ∧ y < 128 := fun y hy => by
    rcases List.mem_cons.1 hy with rfl | hy
    ·exact digI_bd _ (by omega)
    ·exact h y hy
   rw [hexF] at hx
   split at hx
   ·exact hexF_bd f _ _ hc x hx
   ·exact hc x hx
theorem padF_ascii : ∀ (f : Nat) (s : ByteArray), asciiB s = true → asciiB (padF f s) = true
 | 0, s, h => h
 | f + 1, s, h => by
   rw [padF]
   split
   ·refine padF_ascii f _ ?_
    rw [ascii_app, h]
    rfl
   ·exact h
theorem named_ascii (x : Nat) : asciiB (namedS x) = true := by
 unfold namedS
 have h1 : asciiB (padF 4 (strOfNums (hexI x))) = true := padF_ascii _ _ (ascii_nums _ (hexF_bd 16 x [] (fun x h => by cases h)))
 rw [ascii_app, ascii_app, h1]
 rfl
theorem repeatL_one : ∀ n : Nat, (Lib.repeatL [(32 : UInt8)] n) = List.replicate n 32
 | 0 => rfl
 | n + 1 => by
   rw [List.replicate_succ, ← repeatL_one n]
   rfl
theorem spaces_ascii (n : Nat) : asciiB (spaces n) = true ∧ (spaces n).size = n := by
 unfold spaces asciiB
 rw [repeatL_one]
 refine ⟨?_, ?_⟩
 ·rw [List.all_eq_true]
  intro b hb
  rw [List.mem_replicate] at hb
  rw [hb.2]
  rfl
 ·simp [ByteArray.size]
theorem ctl_all : ∀ x : Fin 128, (x.val < 32 ∨ x.val = 127) → asciiB (runesBytes [bits BinOp.xor IntKind.i32 (x.val : Int) 64]) = true ∧ (runesBytes [bits BinOp.xor IntKind.i32 (x.val : Int) 64]).size = 1 := by decide +kernel
def GoodT (c : ByteArray) (t : ByteArray × Int) : Prop := 0 < t.2 → t.2 ≤ 19 ∧ (t.1 = c ∨ dotB t.1 = true ∨ asciiB t.1 = true ∧ t.2 = t.1.size)
theorem dot_pre (s : ByteArray) : dotB (⟨#[226, 151, 140]⟩ ++ s) = true := by
 unfold dotB
 rw [ByteArray.size_append]
 have h1 : (⟨#[226, 151, 140]⟩ ++ s : ByteArray).extract 0 3 = dotS := by
  rw [ByteArray.extract_append]
  show (dotS.extract 0 3) ++ s.extract (0 - 3) (3 - 3) = dotS
  rw [show s.extract (0 - 3) (3 - 3) = ⟨#[]⟩ by apply ByteArray.ext; simp]
  rfl
 rw [h1]
 simp only [decide_true, Bool.and_true, decide_eq_true_eq]
 show 3 ≤ 3 + s.size
 omega
theorem oneI_good (c : ByteArray) (rs : List Int) (col tab : Int) (wide raw : Bool) (h0 : 0 ≤ ith rs 0) : GoodT c (oneI c rs col tab wide raw) := by
 have hbd := oneI_bd c rs col tab wide raw
 intro hp
 refine ⟨hbd.2, ?_⟩
 have hst := stopI_bd col tab
 unfold oneI at hp ⊢
 split
 ·rename_i h
  rw [if_pos h] at hp
  dsimp only at hp ⊢
  obtain ⟨h1, h2⟩ := spaces_ascii (stopI col tab).toNat
  exact .inr (.inr ⟨h1, by rw [h2]; omega⟩)
 rename_i h1
 rw [if_neg h1] at hp
 split
 ·rename_i h
  rw [if_pos h] at hp
  exact absurd hp (by show ¬ (0 : Int) < 0; omega)
 rename_i h2
 rw [if_neg h2] at hp
 split
 ·rename_i h
  obtain ⟨k, hk, hk2⟩ : ∃ k : Fin 128, ith rs 0 = (k.val : Int) ∧ (k.val < 32 ∨ k.val = 127) := ⟨⟨(ith rs 0).toNat, by omega⟩, by dsimp only; omega, by dsimp only; omega⟩
  obtain ⟨e1, e2⟩ := ctl_all k hk2
  rw [hk]
  refine .inr (.inr ⟨?_, ?_⟩)
  ·dsimp only
   rw [ascii_app, e1]
   rfl
  ·dsimp only
   rw [ByteArray.size_append, e2]
   rfl
 rename_i h3
 rw [if_neg h3] at hp
 split
 ·rename_i h
  rw [if_pos h] at hp
  split
  ·exact .inr (.inr ⟨named_ascii _, rfl⟩)
  ·rename_i h'
   rw [if_neg h'] at hp
   exact absurd hp (by show ¬ (0 : Int) < 0; omega)
 rename_i h4
 rw [if_neg h4] at hp
 split
 ·exact .inr (.inl (dot_pre _))
 rename_i h5
 rw [if_neg h5] at hp
 split
 ·exact .inl rfl
 rename_i h6
 rw [if_neg h6] at hp
 split
 ·rename_i h
  rw [if_pos h] at hp
  exact absurd hp (by show ¬ (0 : Int) < 0; omega)
 ·exact .inl rfl
theorem text_good (c : ByteArray) (h : nextI c = c.size) (col tab : Int) (wide raw : Bool) : GoodT c (textI c col tab wide raw) := by
 unfold textI
 rw [h, ByteArray.extract_zero_size]
 unfold textD
 split
 ·intro hp
  exact absurd hp (by show ¬ (0 : Int) < 0; omega)
 split
 ·intro hp
  refine ⟨by show (4 : Int) ≤ 19; omega, .inr (.inr ⟨?_, ?_⟩)⟩
  ·dsimp only
   rw [ascii_app, ascii_app, ascii_nums]
   ·rfl
   ·intro x hx
    have h8 : (c.get! 0).toNat < 256 := UInt8.toNat_lt _
    simp only [List.mem_cons, List.not_mem_nil, or_false] at hx
    rcases hx with rfl | rfl <;> exact digI_bd _ (by omega)
  ·dsimp only
   rw [ByteArray.size_append, ByteArray.size_append, strOfNums_size]
   rfl
 ·rename_i h1 h2
  refine oneI_good _ _ _ _ _ _ ?_
  obtain ⟨_, hr⟩ := runesI_pos c (by omega)
  rw [hr]
  exact Int.natCast_nonneg _
end
end Go.Proofs.YtlbclfmbejjneaaGreatDoor
