/- Part 46 of the proof (merged by a program out of the texts KnownW): lemmas of no further condition than each states. -/
import Derived.Test.YtlbclfmbejjneaaGreatDoorJ45
namespace Go.Proofs.YtlbclfmbejjneaaGreatDoor
set_option linter.unusedVariables false
set_option linter.unusedSimpArgs false
section
open Go.RowKit Go.Proofs Go.Shelf
attribute [local go_sem] Oper.semAt_some
theorem kCells (s : ByteArray) (hs : s.size ≤ 2097152) (wd : Int) (n : Nat) (hn : (cellsI (kR s wd)).length = n) (hlv : lvB (lay2 s 0 false false 0 s.size) = true) (w : World) (hT : T8 w) (hD : DB w) :
 Calls Tryz.prog 12 #[.string s, .agg #[.int .i64 0, .int .i64 s.size, .int .u8 0, .int .i64 wd, .int .i8 0], .agg #[.int .i64 0, .bool false, .int .i8 0, .bool false, .bool false]] w fun e w' => ∃ a c, e = .returned (.slice a n c) ∧ OwnS ceE 32 w' w.heap.size (.slice a n c) (cellsI (kR s wd)) ∧ Below w.heap.size w w' := by
 have h := Cells_any s hs 0 s.size 0 wd 0 0 0 false false false w hT hD (lvB_of hlv) (lay_good s 0 0 false false false 0 s.size wd)
 rw [show (cellsI (layI s 0 0 false false false 0 s.size wd)).length = n from hn] at h
 exact h
set_option maxRecDepth 100000
theorem kn_lv1 : lvB (lay2 kS1 0 false false 0 2) = true := by kernel_rfl
theorem kn_len1 : (cellsI (kR kS1 9)).length = 6 := by kernel_rfl
theorem kn_sh1 : (cellsI (kR kS1 9)).all (fun c => decide (c.text.size ≤ 20)) = true := by kernel_rfl
theorem kn_c1 (w : World) (hT : T8 w) (hD : DB w) : Calls Tryz.prog 12 #[.string ⟨#[255, 1]⟩, .agg #[.int .i64 0, .int .i64 2, .int .u8 0, .int .i64 9, .int .i8 0], .agg #[.int .i64 0, .bool false, .int .i8 0, .bool false, .bool false]] w fun e w' => ∃ a c, e = .returned (.slice a 6 c) ∧ OwnS ceE 32 w' w.heap.size (.slice a 6 c) (cellsI (kR kS1 9)) ∧ Below w.heap.size w w' :=
 kCells kS1 (by decide) 9 6 kn_len1 kn_lv1 w hT hD
theorem kn_t1 (base c : Nat) (a : Option Addr) (w : World) (hO : OwnS ceE 32 w base (.slice a 6 c) (cellsI (kR kS1 9))) : Calls Tryz.prog 22 #[.slice a 6 c] w fun e w' => e = .returned (.string ⟨#[60, 102, 102, 62, 94, 65]⟩) ∧ w = w' := by
 have h := texts_any base 6 c a (cellsI (kR kS1 9)) kn_len1 (by decide) (fun x hx => by have := List.all_eq_true.1 kn_sh1 x hx; simpa using this) w hO
 rw [k1] at h
 exact h
theorem kn_w1 (w : World) : Calls Tryz.prog 15 #[.string ⟨#[255, 1]⟩, .int .i64 9, .int .i8 0] w fun e w' => e = .returned (.agg #[.int .i64 0, .int .i64 2, .int .u8 0, .int .i64 9, .int .i8 0]) ∧ Below w.heap.size w w' := whole_any kS1 9 0 w
theorem kn_lv2 : lvB (lay2 kS2 0 false false 0 7) = true := by kernel_rfl
theorem kn_len2 : (cellsI (kR kS2 9)).length = 5 := by kernel_rfl
theorem kn_sh2 : (cellsI (kR kS2 9)).all (fun c => decide (c.text.size ≤ 20)) = true := by kernel_rfl
theorem kn_c2 (w : World) (hT : T8 w) (hD : DB w) : Calls Tryz.prog 12 #[.string ⟨#[215, 144, 40, 97, 41, 215, 145]⟩, .agg #[.int .i64 0, .int .i64 7, .int .u8 0, .int .i64 9, .int .i8 0], .agg #[.int .i64 0, .bool false, .int .i8 0, .bool false, .bool false]] w fun e w' => ∃ a c, e = .returned (.slice a 5 c) ∧ OwnS ceE 32 w' w.heap.size (.slice a 5 c) (cellsI (kR kS2 9)) ∧ Below w.heap.size w w' :=
 kCells kS2 (by decide) 9 5 kn_len2 kn_lv2 w hT hD
theorem kn_t2 (base c : Nat) (a : Option Addr) (w : World) (hO : OwnS ceE 32 w base (.slice a 5 c) (cellsI (kR kS2 9))) : Calls Tryz.prog 22 #[.slice a 5 c] w fun e w' => e = .returned (.string ⟨#[215, 145, 40, 97, 41, 215, 144]⟩) ∧ w = w' := by
 have h := texts_any base 5 c a (cellsI (kR kS2 9)) kn_len2 (by decide) (fun x hx => by have := List.all_eq_true.1 kn_sh2 x hx; simpa using this) w hO
 rw [k2] at h
 exact h
theorem kn_w2 (w : World) : Calls Tryz.prog 15 #[.string ⟨#[215, 144, 40, 97, 41, 215, 145]⟩, .int .i64 9, .int .i8 0] w fun e w' => e = .returned (.agg #[.int .i64 0, .int .i64 7, .int .u8 0, .int .i64 9, .int .i8 0]) ∧ Below w.heap.size w w' := whole_any kS2 9 0 w
theorem kn_lv3 : lvB (lay2 kS3 0 false false 0 4) = true := by kernel_rfl
theorem kn_len3 : (cellsI (kR kS3 9)).length = 1 := by kernel_rfl
theorem kn_sh3 : (cellsI (kR kS3 9)).all (fun c => decide (c.text.size ≤ 20)) = true := by kernel_rfl
theorem kn_c3 (w : World) (hT : T8 w) (hD : DB w) : Calls Tryz.prog 12 #[.string ⟨#[97, 204, 129, 10]⟩, .agg #[.int .i64 0, .int .i64 4, .int .u8 0, .int .i64 9, .int .i8 0], .agg #[.int .i64 0, .bool false, .int .i8 0, .bool false, .bool false]] w fun e w' => ∃ a c, e = .returned (.slice a 1 c) ∧ OwnS ceE 32 w' w.heap.size (.slice a 1 c) (cellsI (kR kS3 9)) ∧ Below w.heap.size w w' :=
 kCells kS3 (by decide) 9 1 kn_len3 kn_lv3 w hT hD
theorem kn_t3 (base c : Nat) (a : Option Addr) (w : World) (hO : OwnS ceE 32 w base (.slice a 1 c) (cellsI (kR kS3 9))) : Calls Tryz.prog 22 #[.slice a 1 c] w fun e w' => e = .returned (.string ⟨#[97, 204, 129]⟩) ∧ w = w' := by
 have h := texts_any base 1 c a (cellsI (kR kS3 9)) kn_len3 (by decide) (fun x hx => by have := List.all_eq_true.1 kn_sh3 x hx; simpa using this) w hO
 rw [k3] at h
 exact h
theorem kn_w3 (w : World) : Calls Tryz.prog 15 #[.string ⟨#[97, 204, 129, 10]⟩, .int .i64 9, .int .i8 0] w fun e w' => e = .returned (.agg #[.int .i64 0, .int .i64 4, .int .u8 0, .int .i64 9, .int .i8 0]) ∧ Below w.heap.size w w' := whole_any kS3 9 0 w
theorem kn_lv4 : lvB (lay2 kS4 0 false false 0 3) = true := by kernel_rfl
theorem kn_len4 : (cellsI (kR kS4 2)).length = 2 := by kernel_rfl
theorem kn_sh4 : (cellsI (kR kS4 2)).all (fun c => decide (c.text.size ≤ 20)) = true := by kernel_rfl
theorem kn_c4 (w : World) (hT : T8 w) (hD : DB w) : Calls Tryz.prog 12 #[.string ⟨#[97, 32, 32]⟩, .agg #[.int .i64 0, .int .i64 3, .int .u8 0, .int .i64 2, .int .i8 0], .agg #[.int .i64 0, .bool false, .int .i8 0, .bool false, .bool false]] w fun e w' => ∃ a c, e = .returned (.slice a 2 c) ∧ OwnS ceE 32 w' w.heap.size (.slice a 2 c) (cellsI (kR kS4 2)) ∧ Below w.heap.size w w' :=
 kCells kS4 (by decide) 2 2 kn_len4 kn_lv4 w hT hD
theorem kn_t4 (base c : Nat) (a : Option Addr) (w : World) (hO : OwnS ceE 32 w base (.slice a 2 c) (cellsI (kR kS4 2))) : Calls Tryz.prog 22 #[.slice a 2 c] w fun e w' => e = .returned (.string ⟨#[97, 32]⟩) ∧ w = w' := by
 have h := texts_any base 2 c a (cellsI (kR kS4 2)) kn_len4 (by decide) (fun x hx => by have := List.all_eq_true.1 kn_sh4 x hx; simpa using this) w hO
 rw [k4] at h
 exact h
theorem kn_w4 (w : World) : Calls Tryz.prog 15 #[.string ⟨#[97, 32, 32]⟩, .int .i64 2, .int .i8 0] w fun e w' => e = .returned (.agg #[.int .i64 0, .int .i64 3, .int .u8 0, .int .i64 2, .int .i8 0]) ∧ Below w.heap.size w w' := whole_any kS4 2 0 w
theorem kn_lv5 : lvB (lay2 kS5 0 false false 0 3) = true := by kernel_rfl
theorem kn_len5 : (cellsI (kR kS5 9)).length = 8 := by kernel_rfl
theorem kn_sh5 : (cellsI (kR kS5 9)).all (fun c => decide (c.text.size ≤ 20)) = true := by kernel_rfl
theorem kn_c5 (w : World) (hT : T8 w) (hD : DB w) : Calls Tryz.prog 12 #[.string ⟨#[204, 129, 9]⟩, .agg #[.int .i64 0, .int .i64 3, .int .u8 0, .int .i64 9, .int .i8 0], .agg #[.int .i64 0, .bool false, .int .i8 0, .bool false, .bool false]] w fun e w' => ∃ a c, e = .returned (.slice a 8 c) ∧ OwnS ceE 32 w' w.heap.size (.slice a 8 c) (cellsI (kR kS5 9)) ∧ Below w.heap.size w w' :=
 kCells kS5 (by decide) 9 8 kn_len5 kn_lv5 w hT hD
theorem kn_t5 (base c : Nat) (a : Option Addr) (w : World) (hO : OwnS ceE 32 w base (.slice a 8 c) (cellsI (kR kS5 9))) : Calls Tryz.prog 22 #[.slice a 8 c] w fun e w' => e = .returned (.string ⟨#[226, 151, 140, 204, 129, 32, 32, 32, 32, 32, 32, 32]⟩) ∧ w = w' := by
 have h := texts_any base 8 c a (cellsI (kR kS5 9)) kn_len5 (by decide) (fun x hx => by have := List.all_eq_true.1 kn_sh5 x hx; simpa using this) w hO
 rw [k5] at h
 exact h
theorem kn_w5 (w : World) : Calls Tryz.prog 15 #[.string ⟨#[204, 129, 9]⟩, .int .i64 9, .int .i8 0] w fun e w' => e = .returned (.agg #[.int .i64 0, .int .i64 3, .int .u8 0, .int .i64 9, .int .i8 0]) ∧ Below w.heap.size w w' := whole_any kS5 9 0 w
structure KnS (w : World) (A : Nat) (W : World) : Prop where
 bel : Below w.heap.size w W
 lk : W.heap[A]? = some (.cells #[.int .i64 0, .bool false, .int .i8 0, .bool false, .bool false] 26 (0, 0))
theorem KnS.below {w W W' : World} {A : Nat} (h : KnS w A W) (hb : Below W.heap.size W W') : KnS w A W' :=
 ⟨h.bel.trans (hb.mono h.bel.size), (hb.block _ (Array.getElem?_eq_some_iff.1 h.lk).1).trans h.lk⟩
theorem KnS.drew {w W : World} {A : Nat} (h : KnS w A W) : KnS w A W.drew := ⟨h.bel.drew, h.lk⟩
theorem KnS.cells {w W : World} {A : Nat} (h : KnS w A W) : W.cell? ⟨A, 0, none⟩ = some (.int .i64 0) ∧ W.cell? ⟨A, 1, none⟩ = some (.bool false) ∧ W.cell? ⟨A, 2, none⟩ = some (.int .i8 0) ∧ W.cell? ⟨A, 3, none⟩ = some (.bool false) ∧ W.cell? ⟨A, 4, none⟩ = some (.bool false) := by
 have h1 := h.lk
 refine ⟨?_, ?_, ?_, ?_, ?_⟩ <;> simp [World.cell?, h1]
def qMix2 : List St := [⟨0, false, 0⟩, ⟨1, true, 1⟩, ⟨5, true, 1⟩, ⟨3, false, 2⟩, ⟨1, false, 3⟩, ⟨5, false, 3⟩, ⟨6, true, 4⟩]
theorem mix_stops2 : stopsI rMix 2 = qMix2 := by kernel_rfl
theorem mix_stops3 : stopsI rMix 3 = qMix2 := by kernel_rfl
theorem mix_raw2 : (rawS rMix 2).length = 7 := by kernel_rfl
theorem mix_raw3 : (rawS rMix 3).length = 7 := by kernel_rfl
theorem mix_sm2 : smallB (rawS rMix 2) = true := by kernel_rfl
theorem mix_sm3 : smallB (rawS rMix 3) = true := by kernel_rfl
theorem kn_pos1 : qMix.all (fun q => decide (q.a ≤ 1000) && (!q.back || decide (0 < q.a))) = true := by decide
theorem kn_pos2 : qMix2.all (fun q => decide (q.a ≤ 1000) && (!q.back || decide (0 < q.a))) = true := by decide
theorem kn_pos {Q : List St} (h : Q.all (fun q => decide (q.a ≤ 1000) && (!q.back || decide (0 < q.a))) = true) : ∀ q ∈ Q, q.a ≤ 1000 ∧ (q.back = true → 0 < q.a) := fun q hq => by
 have := List.all_eq_true.1 h q hq
 simp only [Bool.and_eq_true, decide_eq_true_eq, Bool.or_eq_true, Bool.not_eq_true'] at this
 refine ⟨this.1, fun hb => ?_⟩
 rcases this.2 with h2 | h2
 ·rw [hb] at h2; cases h2
 ·exact h2
theorem kn_cell (W : World) (Q : List St) (l : Int) (hQ : Q.map encS = [0, -1, -5, 3, 1, 5, l]) : ∀ i q, Q[i]? = some q → (W.alloc (.cells #[.int .i64 0, .int .i64 (-1), .int .i64 (-5), .int .i64 3, .int .i64 1, .int .i64 5, .int .i64 l] 3)).cell? ⟨W.heap.size, i, none⟩ = some (.int .i64 (encS q)) := fun i q hq => by
 have h1 : (Q.map encS)[i]? = some (encS q) := by rw [List.getElem?_map, hq]; rfl
 rw [hQ] at h1
 have h2 := World.cell?_alloc_mark W #[.int .i64 0, .int .i64 (-1), .int .i64 (-5), .int .i64 3, .int .i64 1, .int .i64 5, .int .i64 l] 3 (0, 0) i
 refine h2.trans ?_
 have h3 : (#[.int .i64 0, .int .i64 (-1), .int .i64 (-5), .int .i64 3, .int .i64 1, .int .i64 5, .int .i64 l] : Array Value)[i]? = ([0, -1, -5, 3, 1, 5, l].map (Value.int .i64))[i]? := by simp
 rw [h3, List.getElem?_map, h1]
 rfl
theorem row_cell {W : World} {B t : Nat} {cs : Array Value} (h : W.heap[B]? = some (.cells cs t (0, 0))) (l : List Int) (hl : cs.toList = l.map (Value.int .i64)) (k : Nat) (c : Int) (hc : l[k]? = some c) : W.cell? ⟨B, k, none⟩ = some (.int .i64 c) := by
 have h1 : cs.toList[k]? = some (.int .i64 c) := by rw [hl, List.getElem?_map, hc]; rfl
 rw [Array.getElem?_toList] at h1
 simp [World.cell?, h, h1]
theorem kn_h3 : (hitI rMix 0 3).a = 1 ∧ (hitI rMix 0 3).back = false := ⟨by kernel_rfl, by kernel_rfl⟩
theorem kn_h1 : (hitI rMix 0 1).a = 1 ∧ (hitI rMix 0 1).back = true := ⟨by kernel_rfl, by kernel_rfl⟩
theorem kn_h99 : (hitI rMix 0 99).a = 6 := by kernel_rfl
theorem kn_raw0 : (rawS kR0 0).length = 1 := by kernel_rfl
theorem kn_lv0 : lvB (lay2 ⟨#[]⟩ 0 false false 0 0) = true := by kernel_rfl
theorem kn_sm0 : smallB (rawS kR0 0) = true := by kernel_rfl
theorem kn_st0 (w : World) (hT : T8 w) (hD : DB w) : Calls Tryz.prog 18 #[.string ⟨#[]⟩, .agg #[.int .i64 0, .int .i64 0, .int .u8 0, .int .i64 0, .int .i8 0], .agg #[.int .i64 0, .bool false, .int .i8 0, .bool false, .bool false]] w fun e w' => ∃ a c, e = .returned (.slice a 1 c) ∧ Below w.heap.size w w' := by
 have h := Stops_any ⟨#[]⟩ (by decide) 0 0 0 0 0 0 0 false false false w hT hD (lvB_of kn_lv0) (show (rawS kR0 0).length < 20 by rw [kn_raw0]; omega) (show 0 < (rawS kR0 0).length by rw [kn_raw0]; omega) (smallB_of kn_sm0)
 rw [show (stopsI (layI ⟨#[]⟩ 0 0 false false false 0 0 0) 0).length = 1 from k_nil.1] at h
 exact h.mono fun e w' ⟨a, c, h1, _, h2⟩ => ⟨a, c, h1, h2⟩
theorem kn_p0 (w : World) (hT : T8 w) (hD : DB w) : Calls Tryz.prog 20 #[.string ⟨#[]⟩, .agg #[.int .i64 0, .int .i64 0, .int .u8 0, .int .i64 0, .int .i8 0], .agg #[.int .i64 0, .bool false, .int .i8 0, .bool false, .bool false], .agg #[.int .i64 4, .bool false, .int .i64 0]] w fun e w' => e = .returned (.int .i64 0) ∧ Below w.heap.size w w' := by
 have h := Place_any ⟨#[]⟩ (by decide) 0 0 0 0 0 0 0 false false false 4 0 false w hT hD (lvB_of kn_lv0)
 rw [show placeI (layI ⟨#[]⟩ 0 0 false false false 0 0 0) 4 false = 0 from k_nil.2] at h
 exact h
theorem kn_lv6 : lvB (lay2 kS6 0 false false 0 3) = true := by kernel_rfl
theorem kn_len6 : (cellsI (kR kS6 9)).length = 2 := by rw [k_x]; rfl
theorem kn_c6 (w : World) (hT : T8 w) (hD : DB w) : Calls Tryz.prog 12 #[.string ⟨#[228, 184, 150]⟩, .agg #[.int .i64 0, .int .i64 3, .int .u8 0, .int .i64 9, .int .i8 0], .agg #[.int .i64 0, .bool false, .int .i8 0, .bool false, .bool false]] w fun e w' => ∃ a c, e = .returned (.slice a 2 c) ∧ OwnS ceE 32 w' w.heap.size (.slice a 2 c) (cellsI (kR kS6 9)) ∧ Below w.heap.size w w' :=
 kCells kS6 (by decide) 9 2 kn_len6 kn_lv6 w hT hD
theorem kn_w6 (w : World) : Calls Tryz.prog 15 #[.string ⟨#[228, 184, 150]⟩, .int .i64 9, .int .i8 0] w fun e w' => e = .returned (.agg #[.int .i64 0, .int .i64 3, .int .u8 0, .int .i64 9, .int .i8 0]) ∧ Below w.heap.size w w' := whole_any kS6 9 0 w
theorem kn_lv7 : lvB (lay2 kS7 2 false false 1 9) = true := by kernel_rfl
theorem kn_len7 : (cellsI kR7).length = 2 := by have := congrArg List.length k_y; rw [List.length_map] at this; exact this
theorem kn_c7 (w : World) (hT : T8 w) (hD : DB w) : Calls Tryz.prog 12 #[.string ⟨#[97, 41, 215, 144]⟩, .agg #[.int .i64 1, .int .i64 9, .int .u8 0, .int .i64 9, .int .i8 0], .agg #[.int .i64 0, .bool false, .int .i8 2, .bool false, .bool false]] w fun e w' => ∃ a c, e = .returned (.slice a 2 c) ∧ OwnS ceE 32 w' w.heap.size (.slice a 2 c) (cellsI kR7) ∧ Below w.heap.size w w' := by
 have h := Cells_any kS7 (by decide) 1 9 0 9 0 0 2 false false false w hT hD (lvB_of kn_lv7) (lay_good kS7 0 2 false false false 1 9 9)
 rw [show (cellsI (layI kS7 0 2 false false false 1 9 9)).length = 2 from kn_len7] at h
 exact h
theorem kn_lv8 : lvB (lay2 kS8 2 false false 0 2) = true := by kernel_rfl
theorem kn_w8 (w : World) : Calls Tryz.prog 15 #[.string ⟨#[97, 98]⟩, .int .i64 9, .int .i8 0] w fun e w' => e = .returned (.agg #[.int .i64 0, .int .i64 2, .int .u8 0, .int .i64 9, .int .i8 0]) ∧ Below w.heap.size w w' := whole_any kS8 9 0 w
theorem kn_p8 (w : World) (hT : T8 w) (hD : DB w) : Calls Tryz.prog 20 #[.string ⟨#[97, 98]⟩, .agg #[.int .i64 0, .int .i64 2, .int .u8 0, .int .i64 9, .int .i8 0], .agg #[.int .i64 0, .bool false, .int .i8 2, .bool false, .bool false], .agg #[.int .i64 2, .bool false, .int .i64 0]] w fun e w' => e = .returned (.int .i64 0) ∧ Below w.heap.size w w' := by
 have h := Place_any kS8 (by decide) 0 2 0 9 0 0 2 false false false 2 0 false w hT hD (lvB_of kn_lv8)
 rw [show placeI (layI kS8 0 2 false false false 0 2 9) 2 false = 0 from k_z] at h
 exact h
theorem ce_all3 {w : World} {base n c : Nat} {a : Option Addr} {l : List Ce} (hl : l.length = n) (hO : OwnS ceE 32 w base (.slice a n c) l) (i : Nat) (x : Ce) (hx : l[i]? = some x) :
 ∃ G, a = some ⟨G, 0, none⟩ ∧ w.cell? ⟨G, i * 6, none⟩ = some (.string x.text) ∧ w.cell? ⟨G, i * 6 + 1, none⟩ = some (.int .i8 x.part) ∧ w.cell? ⟨G, i * 6 + 2, none⟩ = some (.int .i64 x.a) ∧ w.cell? ⟨G, i * 6 + 3, none⟩ = some (.int .i64 x.len) ∧ w.cell? ⟨G, i * 6 + 4, none⟩ = some (.bool x.right) ∧ w.cell? ⟨G, i * 6 + 5, none⟩ = some (.int .u16 0) := by
 subst hl
 obtain ⟨G, eG, _, _, hc, _⟩ := hO.at i x hx
 exact ⟨G, eG, hc 0 _ rfl, hc 1 _ rfl, hc 2 _ rfl, hc 3 _ rfl, hc 4 _ rfl, hc 5 _ rfl⟩
theorem kn_s (fin l : Int) (h : (fin = 0 ∧ l = 6) ∨ (fin = 2 ∧ l = -6) ∨ (fin = 3 ∧ l = -6)) (W : World) (hT : T8 W) (hD : DB W) :
 Calls Tryz.prog 23 #[.int .i8 fin, .slice (some ⟨W.heap.size, 0, none⟩) 7 7] (W.alloc (.cells #[.int .i64 0, .int .i64 (-1), .int .i64 (-5), .int .i64 3, .int .i64 1, .int .i64 5, .int .i64 l] 3)) fun e w' => e = .returned (.bool true) ∧ Below W.heap.size W w' := by
 have hb : Below W.heap.size W (W.alloc (.cells #[.int .i64 0, .int .i64 (-1), .int .i64 (-5), .int .i64 3, .int .i64 1, .int .i64 5, .int .i64 l] 3)) := (Below.refl _ _).alloc (Nat.le_refl _) _
 have hlt : W.heap.size < (W.alloc (.cells #[.int .i64 0, .int .i64 (-1), .int .i64 (-5), .int .i64 3, .int .i64 1, .int .i64 5, .int .i64 l] 3)).heap.size := by rw [World.size_alloc]; omega
 have hT' := hT.below rfl hb
 have hD' := hD.below hb
 rcases h with ⟨rfl, rfl⟩ | ⟨rfl, rfl⟩ | ⟨rfl, rfl⟩
 ·exact (stopsL_any 0 qMix mix_stops rfl mix_lt mix_pos (smallB_of mix_small) (kn_pos kn_pos1) _ 7 _ hlt (kn_cell W qMix 6 rfl) hT' hD').mono fun e w' ⟨h1, h2⟩ => ⟨h1, hb.trans (h2.mono hb.size)⟩
 ·exact (stopsL_any 2 qMix2 mix_stops2 rfl (by rw [mix_raw2]; omega) (by rw [mix_raw2]; omega) (smallB_of mix_sm2) (kn_pos kn_pos2) _ 7 _ hlt (kn_cell W qMix2 (-6) rfl) hT' hD').mono fun e w' ⟨h1, h2⟩ => ⟨h1, hb.trans (h2.mono hb.size)⟩
 ·exact (stopsL_any 3 qMix2 mix_stops3 rfl (by rw [mix_raw3]; omega) (by rw [mix_raw3]; omega) (smallB_of mix_sm3) (kn_pos kn_pos2) _ 7 _ hlt (kn_cell W qMix2 (-6) rfl) hT' hD').mono fun e w' ⟨h1, h2⟩ => ⟨h1, hb.trans (h2.mono hb.size)⟩
set_option maxHeartbeats 4000000 in
theorem LawRK_any (w : World) (hT : T8 w) (hD : DB w) :
 Calls Tryz.prog 7 #[] w fun e w' => e = .returned (.bool true) ∧ Below w.heap.size w w' := by
 have HTD : Hid (∀ W, Below w.heap.size w W → T8 W ∧ DB W) := Lib.hid fun W h => ⟨hT.below rfl h, hD.below h⟩
 clear hT hD
 go_enter Tryz.func7, Tryz.ntmps7
 go_upto_region 2 with (fail)
 have hA1 : KnS w w.heap.size (w.alloc (.cells #[.int .i64 0, .bool false, .int .i8 0, .bool false, .bool false] 26)) := ⟨(Below.refl _ _).alloc (Nat.le_refl _) _, World.alloc_heap_new w _⟩
 generalize w.alloc (.cells #[.int .i64 0, .bool false, .int .i8 0, .bool false, .bool false] 26) = W1 at hA1 ⊢
 obtain ⟨A, hA⟩ : ∃ A, w.heap.size = A := ⟨_, rfl⟩
 have hA1 : KnS w A W1 := hA ▸ hA1
 rw [hA]
 have hA1d := hA1.drew
 obtain ⟨S, hSi, hSo⟩ : ∃ S : World → Prop, (∀ W : World, KnS w A W → S W) ∧ (∀ W : World, S W → KnS w A W) := ⟨fun W => KnS w A W, fun _ h => h, fun _ h => h⟩
 have HSi := Lib.hid hSi
 have hne' : Nonempty (WIn S) := ⟨⟨_, hSi _ hA1⟩⟩
 have s0 : ∀ q : WIn S, q.w.cell? ⟨A, 0, none⟩ = some (.int .i64 0) := fun q => (hSo _ q.h).cells.1
 have s1 : ∀ q : WIn S, q.w.cell? ⟨A, 1, none⟩ = some (.bool false) := fun q => (hSo _ q.h).cells.2.1
 have s2 : ∀ q : WIn S, q.w.cell? ⟨A, 2, none⟩ = some (.int .i8 0) := fun q => (hSo _ q.h).cells.2.2.1
 have s3 : ∀ q : WIn S, q.w.cell? ⟨A, 3, none⟩ = some (.bool false) := fun q => (hSo _ q.h).cells.2.2.2.1
 have s4 : ∀ q : WIn S, q.w.cell? ⟨A, 4, none⟩ = some (.bool false) := fun q => (hSo _ q.h).cells.2.2.2.2
 clear hSi hSo hA1
 refine wp_region_segG S [([1], 0), ([], 2), ([], 3), ([4, 5, 7], 6), ([], 8), ([], 9), ([10, 11, 12, 14], 13), ([], 15), ([], 16), ([17, 18, 19, 21], 20), ([], 22), ([], 23), ([24, 25, 26, 28], 27), ([], 29), ([], 30)] [31, 32, 33] (by kernel_rfl) (by kernel_rfl) (HSi.out _ hA1d) ?_
 simp only [segHG, opsAt, List.filterMap_cons, List.filterMap_nil, List.getElem?_toArray, List.getElem?_cons_zero, List.getElem?_cons_succ]
 show wpQuiet _ _ _ _ [_] _
 repeat (go_big_quiet_step (fail))
 refine wpQuiet_nil ?_
 refine ⟨fun o ho => by cases ho; rfl, ?_⟩
 intro K hK
 have HKK := Lib.hid hK
 clear hK
 show wpList _ _ _ [_] _ _
 go_wp2_with (go_at_call 15; refine (kn_w1 _).mono ?_; rintro e v0 ⟨rfl, hb⟩)
 have hB0 := hA1d.below hb
 refine HKK.out _ _ (HSi.out _ hB0) ?_
 clear HKK hb hA1d
 show wpQuiet _ _ _ _ [] _
 refine wpQuiet_nil ?_
 refine ⟨fun o ho => by cases ho; rfl, ?_⟩
 intro K hK
 have HKK := Lib.hid hK
 clear hK
 show wpList _ _ _ [_] _ _
 go_wp2_with (go_at_call 12; refine (kn_c1 _ (HTD.out _ hB0.bel).1 (HTD.out _ hB0.bel).2).mono ?_; rintro e v1 ⟨a1, c1, rfl, hO, hb⟩)
 have hB1 := hB0.below hb
 refine HKK.out _ _ (HSi.out _ hB1) ?_
 clear HKK hb hB0
 show wpQuiet _ _ _ _ [] _
 refine wpQuiet_nil ?_
 refine ⟨fun o ho => by cases ho; rfl, ?_⟩
 intro K hK
 have HKK := Lib.hid hK
 clear hK
 show wpList _ _ _ [_] _ _
 go_wp2_with (go_at_call 22; refine (kn_t1 _ _ _ _ hO).mono ?_; rintro e v2 ⟨rfl, rfl⟩)
 refine HKK.out _ _ (HSi.out _ hB1) ?_
 clear HKK hO
 show wpQuiet _ _ _ _ [_, _, _] _
 repeat (go_big_quiet_step (fail))
 refine wpQuiet_nil ?_
 refine ⟨fun o ho => by cases ho; rfl, ?_⟩
 intro K hK
 have HKK := Lib.hid hK
 clear hK
 show wpList _ _ _ [_] _ _
 go_wp2_with (go_at_call 15; refine (kn_w2 _).mono ?_; rintro e v3 ⟨rfl, hb⟩)
 have hB3 := hB1.below hb
 refine HKK.out _ _ (HSi.out _ hB3) ?_
 clear HKK hb hB1
 show wpQuiet _ _ _ _ [] _
 refine wpQuiet_nil ?_
 refine ⟨fun o ho => by cases ho; rfl, ?_⟩
 intro K hK
 have HKK := Lib.hid hK
 clear hK
 show wpList _ _ _ [_] _ _
 go_wp2_with (go_at_call 12; refine (kn_c2 _ (HTD.out _ hB3.bel).1 (HTD.out _ hB3.bel).2).mono ?_; rintro e v4 ⟨a2, c2, rfl, hO, hb⟩)
 have hB4 := hB3.below hb
 refine HKK.out _ _ (HSi.out _ hB4) ?_
 clear HKK hb hB3
 show wpQuiet _ _ _ _ [] _
 refine wpQuiet_nil ?_
 refine ⟨fun o ho => by cases ho; rfl, ?_⟩
 intro K hK
 have HKK := Lib.hid hK
 clear hK
 show wpList _ _ _ [_] _ _
 go_wp2_with (go_at_call 22; refine (kn_t2 _ _ _ _ hO).mono ?_; rintro e v5 ⟨rfl, rfl⟩)
 refine HKK.out _ _ (HSi.out _ hB4) ?_
 clear HKK hO
 show wpQuiet _ _ _ _ [_, _, _, _] _
 repeat (go_big_quiet_step (fail))
 refine wpQuiet_nil ?_
 refine ⟨fun o ho => by cases ho; rfl, ?_⟩
 intro K hK
 have HKK := Lib.hid hK
 clear hK
 show wpList _ _ _ [_] _ _
 go_wp2_with (go_at_call 15; refine (kn_w3 _).mono ?_; rintro e v6 ⟨rfl, hb⟩)
 have hB6 := hB4.below hb
 refine HKK.out _ _ (HSi.out _ hB6) ?_
 clear HKK hb hB4
 show wpQuiet _ _ _ _ [] _
 refine wpQuiet_nil ?_
 refine ⟨fun o ho => by cases ho; rfl, ?_⟩
 intro K hK
 have HKK := Lib.hid hK
 clear hK
 show wpList _ _ _ [_] _ _
 go_wp2_with (go_at_call 12; refine (kn_c3 _ (HTD.out _ hB6.bel).1 (HTD.out _ hB6.bel).2).mono ?_; rintro e v7 ⟨a3, c3, rfl, hO, hb⟩)
 have hB7 := hB6.below hb
 refine HKK.out _ _ (HSi.out _ hB7) ?_
 clear HKK hb hB6
 show wpQuiet _ _ _ _ [] _
 refine wpQuiet_nil ?_
 refine ⟨fun o ho => by cases ho; rfl, ?_⟩
 intro K hK
 have HKK := Lib.hid hK
 clear hK
 show wpList _ _ _ [_] _ _
 go_wp2_with (go_at_call 22; refine (kn_t3 _ _ _ _ hO).mono ?_; rintro e v8 ⟨rfl, rfl⟩)
 refine HKK.out _ _ (HSi.out _ hB7) ?_
 clear HKK hO
 show wpQuiet _ _ _ _ [_, _, _, _] _
 repeat (go_big_quiet_step (fail))
 refine wpQuiet_nil ?_
 refine ⟨fun o ho => by cases ho; rfl, ?_⟩
 intro K hK
 have HKK := Lib.hid hK
 clear hK
 show wpList _ _ _ [_] _ _
 go_wp2_with (go_at_call 15; refine (kn_w4 _).mono ?_; rintro e v9 ⟨rfl, hb⟩)
 have hB9 := hB7.below hb
 refine HKK.out _ _ (HSi.out _ hB9) ?_
 clear HKK hb hB7
 show wpQuiet _ _ _ _ [] _
 refine wpQuiet_nil ?_
 refine ⟨fun o ho => by cases ho; rfl, ?_⟩
 intro K hK
 have HKK := Lib.hid hK
 clear hK
 show wpList _ _ _ [_] _ _
 go_wp2_with (go_at_call 12; refine (kn_c4 _ (HTD.out _ hB9.bel).1 (HTD.out _ hB9.bel).2).mono ?_; rintro e v10 ⟨a4, c4, rfl, hO, hb⟩)
 have hB10 := hB9.below hb
 refine HKK.out _ _ (HSi.out _ hB10) ?_
 clear HKK hb hB9
 show wpQuiet _ _ _ _ [] _
 refine wpQuiet_nil ?_
 refine ⟨fun o ho => by cases ho; rfl, ?_⟩
 intro K hK
 have HKK := Lib.hid hK
 clear hK
 show wpList _ _ _ [_] _ _
 go_wp2_with (go_at_call 22; refine (kn_t4 _ _ _ _ hO).mono ?_; rintro e v11 ⟨rfl, rfl⟩)
 refine HKK.out _ _ (HSi.out _ hB10) ?_
 clear HKK hO
 show wpQuiet _ _ _ _ [_, _, _, _] _
 repeat (go_big_quiet_step (fail))
 refine wpQuiet_nil ?_
 refine ⟨fun o ho => by cases ho; rfl, ?_⟩
 intro K hK
 have HKK := Lib.hid hK
 clear hK
 show wpList _ _ _ [_] _ _
 go_wp2_with (go_at_call 15; refine (kn_w5 _).mono ?_; rintro e v12 ⟨rfl, hb⟩)
 have hB12 := hB10.below hb
 refine HKK.out _ _ (HSi.out _ hB12) ?_
 clear HKK hb hB10
 show wpQuiet _ _ _ _ [] _
 refine wpQuiet_nil ?_
 refine ⟨fun o ho => by cases ho; rfl, ?_⟩
 intro K hK
 have HKK := Lib.hid hK
 clear hK
 show wpList _ _ _ [_] _ _
 go_wp2_with (go_at_call 12; refine (kn_c5 _ (HTD.out _ hB12.bel).1 (HTD.out _ hB12.bel).2).mono ?_; rintro e v13 ⟨a5, c5, rfl, hO, hb⟩)
 have hB13 := hB12.below hb
 refine HKK.out _ _ (HSi.out _ hB13) ?_
 clear HKK hb hB12
 show wpQuiet _ _ _ _ [] _
 refine wpQuiet_nil ?_
 refine ⟨fun o ho => by cases ho; rfl, ?_⟩
 intro K hK
 have HKK := Lib.hid hK
 clear hK
 show wpList _ _ _ [_] _ _
 go_wp2_with (go_at_call 22; refine (kn_t5 _ _ _ _ hO).mono ?_; rintro e v14 ⟨rfl, rfl⟩)
 refine HKK.out _ _ (HSi.out _ hB13) ?_
 clear HKK hO
 show wpQuiet _ _ _ _ [_, _, _] _
 repeat (go_big_quiet_step (fail))
 refine wpQuiet_nil ?_
 refine NoPanic.normal ?_
 clear s0 s1 s2 s3 s4 hne' HSi
 have HS : Hid (∀ fin l W, ((fin = 0 ∧ l = 6) ∨ (fin = 2 ∧ l = -6) ∨ (fin = 3 ∧ l = -6)) → KnS w A W → Calls Tryz.prog 23 #[.int .i8 fin, .slice (some ⟨W.heap.size, 0, none⟩) 7 7] (W.alloc (.cells #[.int .i64 0, .int .i64 (-1), .int .i64 (-5), .int .i64 3, .int .i64 1, .int .i64 5, .int .i64 l] 3)) fun e w' => e = .returned (.bool true) ∧ KnS w A w') :=
  Lib.hid fun fin l W h hK => (kn_s fin l h W (HTD.out _ hK.bel).1 (HTD.out _ hK.bel).2).mono fun e w' ⟨h1, h2⟩ => ⟨h1, hK.below h2⟩
 go_upto_region 3 with (fail)
 go_upto_region 4 with (go_at_call 23; refine (HS.out _ _ _ (by decide) (by assumption)).mono ?_; rintro e x3 ⟨rfl, hK3⟩)
 have HWH : Hid (∀ W, Calls Tryz.prog 15 #[.string ⟨#[97, 215, 144, 215, 145, 98]⟩, .int .i64 99, .int .i8 0] W fun e w' => e = .returned (.agg #[.int .i64 0, .int .i64 6, .int .u8 0, .int .i64 99, .int .i8 0]) ∧ Below W.heap.size W w') := Lib.hid fun W => whole_any sMix 99 0 W
 go_upto_region 5 with (go_at_call 15; refine (HWH.out _).mono ?_; rintro e x4 ⟨rfl, hb4⟩)
 have hA4 := hK3.below hb4
 clear hb4 HS HWH hB13 hK3
 obtain ⟨R, hR⟩ : ∃ R, x4.heap.size = R := ⟨_, rfl⟩
 have HPL : Hid (∀ c back W, Below w.heap.size w W → Calls Tryz.prog 20 #[.string ⟨#[97, 215, 144, 215, 145, 98]⟩, .agg #[.int .i64 0, .int .i64 6, .int .u8 0, .int .i64 99, .int .i8 0], .agg #[.int .i64 0, .bool false, .int .i8 0, .bool false, .bool false], .agg #[.int .i64 c, .bool back, .int .i64 0]] W fun e w' => e = .returned (.int .i64 (placeI rMix c back)) ∧ Below W.heap.size W w') :=
  Lib.hid fun c back W hb => Place_any sMix (by decide) 0 6 0 99 0 0 0 false false false c 0 back W (HTD.out W hb).1 (HTD.out W hb).2 (lvB_of mix_lv)
 have HHI : Hid (∀ x W, Below w.heap.size w W → Calls Tryz.prog 19 #[.string ⟨#[97, 215, 144, 215, 145, 98]⟩, .agg #[.int .i64 0, .int .i64 6, .int .u8 0, .int .i64 99, .int .i8 0], .agg #[.int .i64 0, .bool false, .int .i8 0, .bool false, .bool false], .int .i64 x] W fun e w' => e = .returned (.agg #[.int .i64 (hitI rMix 0 x).a, .bool (hitI rMix 0 x).back, .int .i64 (-1)]) ∧ Below W.heap.size W w') :=
  Lib.hid fun x W hb => Hit_any sMix (by decide) 0 6 0 99 0 0 0 x false false false W (HTD.out W hb).1 (HTD.out W hb).2 (lvB_of mix_lv) mix_lt mix_pos (smallB_of mix_small) (smallB_of mix_small2)
 go_upto_block 0 with (fail)
 have hx5 := World.alloc_heap_new x4 (.cells #[.int .i64 0, .int .i64 6, .int .u8 0, .int .i64 99, .int .i8 0] 24)
 have hA5 := hA4.below ((Below.refl x4.heap.size x4).alloc (Nat.le_refl _) (.cells #[.int .i64 0, .int .i64 6, .int .u8 0, .int .i64 99, .int .i8 0] 24))
 have hz5 : (x4.alloc (.cells #[.int .i64 0, .int .i64 6, .int .u8 0, .int .i64 99, .int .i8 0] 24)).heap.size = R + 1 := by rw [World.size_alloc, hR]
 generalize x4.alloc (.cells #[.int .i64 0, .int .i64 6, .int .u8 0, .int .i64 99, .int .i8 0] 24) = W5 at hx5 hA5 hz5 ⊢
 rw [hR] at hx5 ⊢
 obtain ⟨e1, e2, e3⟩ := two_alloc W5 (.cells #[.int .i64 0, .int .i64 1, .int .i64 3, .int .i64 5, .int .i64 6, .int .i64 2, .int .i64 (-3), .int .i64 99] 3 (0, 0)) (.cells #[.int .i64 0, .int .i64 3, .int .i64 2, .int .i64 3, .int .i64 4, .int .i64 3, .int .i64 0, .int .i64 4] 3 (0, 0))
 rw [hz5] at e1 e2 e3
 generalize (W5.alloc (.cells #[.int .i64 0, .int .i64 1, .int .i64 3, .int .i64 5, .int .i64 6, .int .i64 2, .int .i64 (-3), .int .i64 99] 3)).alloc (.cells #[.int .i64 0, .int .i64 3, .int .i64 2, .int .i64 3, .int .i64 4, .int .i64 3, .int .i64 0, .int .i64 4] 3) = W6 at e1 e2 e3 ⊢
 have hz6 : R + 1 + 1 < W6.heap.size := (Array.getElem?_eq_some_iff.1 e2).1
 have hA6 : Below w.heap.size w W6 := hA5.bel.trans (e3.mono (by have := hA5.bel.size; omega))
 have HWa := Lib.hid hA6
 have hlA := (Array.getElem?_eq_some_iff.1 hA5.lk).1
 have hlR := (Array.getElem?_eq_some_iff.1 hx5).1
 have HKa : Hid (∀ W, Below W6.heap.size W6 W → W.cell? ⟨A, 0, none⟩ = some (.int .i64 0) ∧ W.cell? ⟨A, 1, none⟩ = some (.bool false) ∧ W.cell? ⟨A, 2, none⟩ = some (.int .i8 0) ∧ W.cell? ⟨A, 3, none⟩ = some (.bool false) ∧ W.cell? ⟨A, 4, none⟩ = some (.bool false) ∧ W.cell? ⟨R, 0, none⟩ = some (.int .i64 0) ∧ W.cell? ⟨R, 1, none⟩ = some (.int .i64 6) ∧ W.cell? ⟨R, 2, none⟩ = some (.int .u8 0) ∧ W.cell? ⟨R, 3, none⟩ = some (.int .i64 99) ∧ W.cell? ⟨R, 4, none⟩ = some (.int .i8 0)) := Lib.hid fun W hW => by
  have g1 := (hW.block A (by omega)).trans ((e3.block A (by omega)).trans hA5.lk)
  have g2 := (hW.block R (by omega)).trans ((e3.block R (by omega)).trans hx5)
  refine ⟨?_, ?_, ?_, ?_, ?_, ?_, ?_, ?_, ?_, ?_⟩ <;> simp [World.cell?, g1, g2]
 have HXa : Hid (∀ W, Below W6.heap.size W6 W → ∀ (k : Nat) (c : Int), ([0, 1, 3, 5, 6, 2, -3, 99] : List Int)[k]? = some c → W.cell? ⟨R + 1, k, none⟩ = some (.int .i64 c)) := Lib.hid fun W hW k c hc => row_cell ((hW.block (R + 1) (by omega)).trans e1) [0, 1, 3, 5, 6, 2, -3, 99] rfl k c hc
 have HYa : Hid (∀ W, Below W6.heap.size W6 W → ∀ (k : Nat) (c : Int), ([0, 3, 2, 3, 4, 3, 0, 4] : List Int)[k]? = some c → W.cell? ⟨R + 1 + 1, k, none⟩ = some (.int .i64 c)) := Lib.hid fun W hW k c hc => row_cell ((hW.block (R + 1 + 1) hz6).trans e2) [0, 3, 2, 3, 4, 3, 0, 4] rfl k c hc
 clear hA4 hx5 hA5 hz5 e1 e2 e3 hA6 hR hlA hlR
 go_wp2_with (fail)
 go_loopw [7] (fun u wx => ∃ k : Nat, k ≤ 8 ∧ u = .int .i64 k ∧ Below W6.heap.size W6 wx) (fun u _ => 8 - (intOf u).toNat)
 case atStart => exact ⟨0, Nat.zero_le _, rfl, Below.refl _ _⟩
 case round =>
  obtain ⟨ka, hk, rfl, hb⟩ := hrel
  have HBr := Lib.hid hb
  by_cases hlt : ka < 8
  ·obtain ⟨c, hc⟩ : ∃ c, ([0, 1, 3, 5, 6, 2, -3, 99] : List Int)[ka]? = some c := ⟨_, List.getElem?_eq_getElem (by simpa using hlt)⟩
   have hpl := congrArg (fun l : List Int => l[ka]?) k_place
   rw [List.getElem?_map, hc] at hpl
   obtain ⟨d, hd⟩ : ∃ d, placeI rMix c false = d := ⟨_, rfl⟩
   have hpl : ([0, 3, 2, 3, 4, 3, 0, 4] : List Int)[ka]? = some d := by rw [← hpl, ← hd]; rfl
   have HPC := Lib.hid (HPL.out c false wr.drew (HWa.out.trans (hb.drew.mono HWa.out.size)))
   rw [hd] at HPC
   have hCk : ∀ W, Below W6.heap.size W6 W → W.cell? ⟨R + 1, ka, none⟩ = some (.int .i64 c) ∧ W.cell? ⟨R + 1 + 1, ka, none⟩ = some (.int .i64 d) := fun W hW => ⟨HXa.out W hW ka c hc, HYa.out W hW ka d hpl⟩
   have hkn : (ka : Int) < 8 := by omega
   have hwk : IntKind.i64.wrap ((ka : Int) + 1) = (ka : Int) + 1 := by rw [IntKind.wrap_i64]; omega
   obtain ⟨S, hSi, hSo⟩ : ∃ S : World → Prop, (∀ W : World, Below W6.heap.size W6 W → S W) ∧ (∀ W : World, S W → Below W6.heap.size W6 W) := ⟨fun W => Below W6.heap.size W6 W, fun _ h => h, fun _ h => h⟩
   have HSi := Lib.hid hSi
   have hne' : Nonempty (WIn S) := ⟨⟨_, hSi _ hb⟩⟩
   have s0 : ∀ q : WIn S, q.w.cell? ⟨A, 0, none⟩ = some (.int .i64 0) := fun q => (HKa.out _ (hSo _ q.h)).1
   have s1 : ∀ q : WIn S, q.w.cell? ⟨A, 1, none⟩ = some (.bool false) := fun q => (HKa.out _ (hSo _ q.h)).2.1
   have s2 : ∀ q : WIn S, q.w.cell? ⟨A, 2, none⟩ = some (.int .i8 0) := fun q => (HKa.out _ (hSo _ q.h)).2.2.1
   have s3 : ∀ q : WIn S, q.w.cell? ⟨A, 3, none⟩ = some (.bool false) := fun q => (HKa.out _ (hSo _ q.h)).2.2.2.1
   have s4 : ∀ q : WIn S, q.w.cell? ⟨A, 4, none⟩ = some (.bool false) := fun q => (HKa.out _ (hSo _ q.h)).2.2.2.2.1
   have s5 : ∀ q : WIn S, q.w.cell? ⟨R, 0, none⟩ = some (.int .i64 0) := fun q => (HKa.out _ (hSo _ q.h)).2.2.2.2.2.1
   have s6 : ∀ q : WIn S, q.w.cell? ⟨R, 1, none⟩ = some (.int .i64 6) := fun q => (HKa.out _ (hSo _ q.h)).2.2.2.2.2.2.1
   have s7 : ∀ q : WIn S, q.w.cell? ⟨R, 2, none⟩ = some (.int .u8 0) := fun q => (HKa.out _ (hSo _ q.h)).2.2.2.2.2.2.2.1
   have s8 : ∀ q : WIn S, q.w.cell? ⟨R, 3, none⟩ = some (.int .i64 99) := fun q => (HKa.out _ (hSo _ q.h)).2.2.2.2.2.2.2.2.1
   have s9 : ∀ q : WIn S, q.w.cell? ⟨R, 4, none⟩ = some (.int .i8 0) := fun q => (HKa.out _ (hSo _ q.h)).2.2.2.2.2.2.2.2.2
   have sa : ∀ q : WIn S, q.w.cell? ⟨R + 1, ka, none⟩ = some (.int .i64 c) := fun q => (hCk _ (hSo _ q.h)).1
   have sb : ∀ q : WIn S, q.w.cell? ⟨R + 1 + 1, ka, none⟩ = some (.int .i64 d) := fun q => (hCk _ (hSo _ q.h)).2
   clear hSi hSo hc hd hpl hCk hb
   go_upto_region 10 with (fail)
   refine wp_region_segP S [([0, 1, 2, 3, 4, 5, 6, 8, 9, 10, 11], 7)] [12] (by kernel_rfl) (by kernel_rfl) (HSi.out _ HBr.out.drew) ?_
   simp only [segHP, opsAt, List.filterMap_cons, List.filterMap_nil, List.getElem?_toArray, List.getElem?_cons_zero, List.getElem?_cons_succ]
   show wpQuiet _ _ _ _ [_, _, _, _, _, _, _, _, _, _, _] _
   repeat (go_big_quiet_step (fail))
   refine wpQuiet_nil ?_
   intro K hK
   have HKK := Lib.hid hK
   clear hK
   show wpList _ _ _ [_] _ _
   go_wp2_with (go_at_call 20; refine HPC.out.mono ?_; rintro e x5 ⟨rfl, hb5⟩)
   have hb6 : Below W6.heap.size W6 x5 := HBr.out.drew.trans (hb5.mono HBr.out.drew.size)
   have HB6 := Lib.hid hb6
   refine HKK.out _ _ (HSi.out _ hb6) ?_
   clear HKK hb5 hb6 HPC s0 s1 s2 s3 s4 s5 s6 s7 s8 s9 sa sb
   show wpQuiet _ _ _ _ [_] _
   repeat (go_big_quiet_step (fail))
   refine wpQuiet_nil ?_
   refine NoPanic.normal ?_
   clear hne' HSi
   go_wp2_with (fail)
   go_roundw
   case rel => exact ⟨ka + 1, by omega, by go_num, HB6.out⟩
   case measure => simp [intOf]; omega
  ·have hkE : ¬ ((ka : Int) < 8) := by omega
   have hkD : decide ((ka : Int) < 8) = false := decide_eq_false hkE
   clear hb hlt
   go_upto_block 2 with (fail)
   obtain ⟨e1, e2, e3⟩ := two_alloc wr (.cells #[.int .i64 1, .int .i64 3, .int .i64 5, .int .i64 6, .int .i64 0] 3 (0, 0)) (.cells #[.int .i64 1, .int .i64 2, .int .i64 1, .int .i64 4, .int .i64 0] 3 (0, 0))
   generalize (wr.alloc (.cells #[.int .i64 1, .int .i64 3, .int .i64 5, .int .i64 6, .int .i64 0] 3)).alloc (.cells #[.int .i64 1, .int .i64 2, .int .i64 1, .int .i64 4, .int .i64 0] 3) = W7 at e1 e2 e3 ⊢
   obtain ⟨X, hX⟩ : ∃ X, wr.heap.size = X := ⟨_, rfl⟩
   rw [hX] at e1 e2 ⊢
   have hz7 : X + 1 < W7.heap.size := (Array.getElem?_eq_some_iff.1 e2).1
   have hb7 : Below W6.heap.size W6 W7 := HBr.out.trans (e3.mono HBr.out.size)
   have HWb := Lib.hid (HWa.out.trans (hb7.mono HWa.out.size))
   have HKb : Hid (∀ W, Below W7.heap.size W7 W → W.cell? ⟨A, 0, none⟩ = some (.int .i64 0) ∧ W.cell? ⟨A, 1, none⟩ = some (.bool false) ∧ W.cell? ⟨A, 2, none⟩ = some (.int .i8 0) ∧ W.cell? ⟨A, 3, none⟩ = some (.bool false) ∧ W.cell? ⟨A, 4, none⟩ = some (.bool false) ∧ W.cell? ⟨R, 0, none⟩ = some (.int .i64 0) ∧ W.cell? ⟨R, 1, none⟩ = some (.int .i64 6) ∧ W.cell? ⟨R, 2, none⟩ = some (.int .u8 0) ∧ W.cell? ⟨R, 3, none⟩ = some (.int .i64 99) ∧ W.cell? ⟨R, 4, none⟩ = some (.int .i8 0)) := Lib.hid fun W hW => HKa.out W (hb7.trans (hW.mono hb7.size))
   have HXb : Hid (∀ W, Below W7.heap.size W7 W → ∀ (k : Nat) (c : Int), ([1, 3, 5, 6, 0] : List Int)[k]? = some c → W.cell? ⟨X, k, none⟩ = some (.int .i64 c)) := Lib.hid fun W hW k c hc => row_cell ((hW.block X (by omega)).trans e1) [1, 3, 5, 6, 0] rfl k c hc
   have HYb : Hid (∀ W, Below W7.heap.size W7 W → ∀ (k : Nat) (c : Int), ([1, 2, 1, 4, 0] : List Int)[k]? = some c → W.cell? ⟨X + 1, k, none⟩ = some (.int .i64 c)) := Lib.hid fun W hW k c hc => row_cell ((hW.block (X + 1) hz7).trans e2) [1, 2, 1, 4, 0] rfl k c hc
   clear e1 e2 e3 hX hb7 HKa HXa HYa HBr
   go_wp2_with (fail)
   go_loopw [0, 10] (fun _ u wx => ∃ k : Nat, k ≤ 5 ∧ u = .int .i64 k ∧ Below W7.heap.size W7 wx) (fun _ u _ => 5 - (intOf u).toNat)
   case atStart => exact ⟨0, Nat.zero_le _, rfl, Below.refl _ _⟩
   case round =>
    obtain ⟨kb, hk, rfl, hb⟩ := hrel
    have HBr := Lib.hid hb
    by_cases hlt : kb < 5
    ·obtain ⟨c, hc⟩ : ∃ c, ([1, 3, 5, 6, 0] : List Int)[kb]? = some c := ⟨_, List.getElem?_eq_getElem (by simpa using hlt)⟩
     have hpl := congrArg (fun l : List Int => l[kb]?) k_back
     rw [List.getElem?_map, hc] at hpl
     obtain ⟨d, hd⟩ : ∃ d, placeI rMix c true = d := ⟨_, rfl⟩
     have hpl : ([1, 2, 1, 4, 0] : List Int)[kb]? = some d := by rw [← hpl, ← hd]; rfl
     have HPC := Lib.hid (HPL.out c true wr.drew (HWb.out.trans (hb.drew.mono HWb.out.size)))
     rw [hd] at HPC
     have hCk : ∀ W, Below W7.heap.size W7 W → W.cell? ⟨X, kb, none⟩ = some (.int .i64 c) ∧ W.cell? ⟨X + 1, kb, none⟩ = some (.int .i64 d) := fun W hW => ⟨HXb.out W hW kb c hc, HYb.out W hW kb d hpl⟩
     have hkn : (kb : Int) < 5 := by omega
     have hwk : IntKind.i64.wrap ((kb : Int) + 1) = (kb : Int) + 1 := by rw [IntKind.wrap_i64]; omega
     obtain ⟨S, hSi, hSo⟩ : ∃ S : World → Prop, (∀ W : World, Below W7.heap.size W7 W → S W) ∧ (∀ W : World, S W → Below W7.heap.size W7 W) := ⟨fun W => Below W7.heap.size W7 W, fun _ h => h, fun _ h => h⟩
     have HSi := Lib.hid hSi
     have hne' : Nonempty (WIn S) := ⟨⟨_, hSi _ hb⟩⟩
     have s0 : ∀ q : WIn S, q.w.cell? ⟨A, 0, none⟩ = some (.int .i64 0) := fun q => (HKb.out _ (hSo _ q.h)).1
     have s1 : ∀ q : WIn S, q.w.cell? ⟨A, 1, none⟩ = some (.bool false) := fun q => (HKb.out _ (hSo _ q.h)).2.1
     have s2 : ∀ q : WIn S, q.w.cell? ⟨A, 2, none⟩ = some (.int .i8 0) := fun q => (HKb.out _ (hSo _ q.h)).2.2.1
     have s3 : ∀ q : WIn S, q.w.cell? ⟨A, 3, none⟩ = some (.bool false) := fun q => (HKb.out _ (hSo _ q.h)).2.2.2.1
     have s4 : ∀ q : WIn S, q.w.cell? ⟨A, 4, none⟩ = some (.bool false) := fun q => (HKb.out _ (hSo _ q.h)).2.2.2.2.1
     have s5 : ∀ q : WIn S, q.w.cell? ⟨R, 0, none⟩ = some (.int .i64 0) := fun q => (HKb.out _ (hSo _ q.h)).2.2.2.2.2.1
     have s6 : ∀ q : WIn S, q.w.cell? ⟨R, 1, none⟩ = some (.int .i64 6) := fun q => (HKb.out _ (hSo _ q.h)).2.2.2.2.2.2.1
     have s7 : ∀ q : WIn S, q.w.cell? ⟨R, 2, none⟩ = some (.int .u8 0) := fun q => (HKb.out _ (hSo _ q.h)).2.2.2.2.2.2.2.1
     have s8 : ∀ q : WIn S, q.w.cell? ⟨R, 3, none⟩ = some (.int .i64 99) := fun q => (HKb.out _ (hSo _ q.h)).2.2.2.2.2.2.2.2.1
     have s9 : ∀ q : WIn S, q.w.cell? ⟨R, 4, none⟩ = some (.int .i8 0) := fun q => (HKb.out _ (hSo _ q.h)).2.2.2.2.2.2.2.2.2
     have sa : ∀ q : WIn S, q.w.cell? ⟨X, kb, none⟩ = some (.int .i64 c) := fun q => (hCk _ (hSo _ q.h)).1
     have sb : ∀ q : WIn S, q.w.cell? ⟨X + 1, kb, none⟩ = some (.int .i64 d) := fun q => (hCk _ (hSo _ q.h)).2
     clear hSi hSo hc hd hpl hCk hb
     go_upto_region 17 with (fail)
     refine wp_region_segP S [([0, 1, 2, 3, 4, 5, 6, 8, 9, 10, 11], 7)] [12] (by kernel_rfl) (by kernel_rfl) (HSi.out _ HBr.out.drew) ?_
     simp only [segHP, opsAt, List.filterMap_cons, List.filterMap_nil, List.getElem?_toArray, List.getElem?_cons_zero, List.getElem?_cons_succ]
     show wpQuiet _ _ _ _ [_, _, _, _, _, _, _, _, _, _, _] _
     repeat (go_big_quiet_step (fail))
     refine wpQuiet_nil ?_
     intro K hK
     have HKK := Lib.hid hK
     clear hK
     show wpList _ _ _ [_] _ _
     go_wp2_with (go_at_call 20; refine HPC.out.mono ?_; rintro e x5 ⟨rfl, hb5⟩)
     have hb6 : Below W7.heap.size W7 x5 := HBr.out.drew.trans (hb5.mono HBr.out.drew.size)
     have HB6 := Lib.hid hb6
     refine HKK.out _ _ (HSi.out _ hb6) ?_
     clear HKK hb5 hb6 HPC s0 s1 s2 s3 s4 s5 s6 s7 s8 s9 sa sb
     show wpQuiet _ _ _ _ [_] _
     repeat (go_big_quiet_step (fail))
     refine wpQuiet_nil ?_
     refine NoPanic.normal ?_
     clear hne' HSi
     go_wp2_with (fail)
     go_roundw
     case rel => exact ⟨kb + 1, by omega, by go_num, HB6.out⟩
     case measure => simp [intOf]; omega
    ·have hkE : ¬ ((kb : Int) < 5) := by omega
     have hkD : decide ((kb : Int) < 5) = false := decide_eq_false hkE
     clear hb hlt
     have hkr := HWb.out.trans (HBr.out.mono HWb.out.size)
     have HH1 := Lib.hid (HHI.out 3 wr hkr)
     rw [kn_h3.1, kn_h3.2] at HH1
     obtain ⟨c0, c1, c2, c3, c4, c5, c6, c7, c8, c9⟩ := HKb.out wr HBr.out
     have HB0 := HBr
     clear hkr HBr
     go_upto_region 20 with (go_at_call 19; refine HH1.out.mono ?_; rintro e y1 ⟨rfl, hb1⟩)
     clear c0 c1 c2 c3 c4 c5 c6 c7 c8 c9
     have hal1 : Below y1.heap.size y1 (y1.alloc (.cells #[.int .i64 1, .bool false, .int .i64 (-1)] 49)) := (Below.refl _ _).alloc (Nat.le_refl _) _
     have hbq1 : Below W7.heap.size W7 (y1.alloc (.cells #[.int .i64 1, .bool false, .int .i64 (-1)] 49)) := (HB0.out.trans (hb1.mono HB0.out.size)).alloc (HB0.out.trans (hb1.mono HB0.out.size)).size _
     have hx1 := World.alloc_heap_new y1 (.cells #[.int .i64 1, .bool false, .int .i64 (-1)] 49)
     generalize y1.alloc (.cells #[.int .i64 1, .bool false, .int .i64 (-1)] 49) = z1 at hx1 hbq1 hal1 ⊢
     obtain ⟨D1, hD1⟩ : ∃ D, y1.heap.size = D := ⟨_, rfl⟩
     rw [hD1] at hx1 ⊢
     have HB1 := Lib.hid hbq1
     have HX1 := Lib.hid hx1
     obtain ⟨c0, c1, c2, c3, c4, c5, c6, c7, c8, c9⟩ := HKb.out z1 hbq1
     have HH2 := Lib.hid (HHI.out 1 z1 (HWb.out.trans (hbq1.mono HWb.out.size)))
     rw [kn_h1.1, kn_h1.2] at HH2
     clear hb1 hal1 hD1 hbq1 HH1 HB0 hx1
     go_upto_region 21 with (go_at_call 19; refine HH2.out.mono ?_; rintro e y2 ⟨rfl, hb2⟩)
     clear c0 c1 c2 c3 c4 c5 c6 c7 c8 c9
     have hal2 : Below y2.heap.size y2 (y2.alloc (.cells #[.int .i64 1, .bool true, .int .i64 (-1)] 49)) := (Below.refl _ _).alloc (Nat.le_refl _) _
     have hbq2 : Below W7.heap.size W7 (y2.alloc (.cells #[.int .i64 1, .bool true, .int .i64 (-1)] 49)) := (HB1.out.trans (hb2.mono HB1.out.size)).alloc (HB1.out.trans (hb2.mono HB1.out.size)).size _
     have hx2 := World.alloc_heap_new y2 (.cells #[.int .i64 1, .bool true, .int .i64 (-1)] 49)
     have hl1 := (Array.getElem?_eq_some_iff.1 HX1.out).1
     have hx1 := (hal2.block D1 (Nat.lt_of_lt_of_le hl1 hb2.size)).trans ((hb2.block D1 hl1).trans HX1.out)
     generalize y2.alloc (.cells #[.int .i64 1, .bool true, .int .i64 (-1)] 49) = z2 at hx1 hx2 hbq2 hal2 ⊢
     obtain ⟨D2, hD2⟩ : ∃ D, y2.heap.size = D := ⟨_, rfl⟩
     rw [hD2] at hx2 ⊢
     have HB2 := Lib.hid hbq2
     clear HX1 hl1
     have HX1 := Lib.hid hx1
     have HX2 := Lib.hid hx2
     obtain ⟨c0, c1, c2, c3, c4, c5, c6, c7, c8, c9⟩ := HKb.out z2 hbq2
     have HH3 := Lib.hid (HHI.out 99 z2 (HWb.out.trans (hbq2.mono HWb.out.size)))
     rw [kn_h99] at HH3
     clear hb2 hal2 hD2 hbq2 HH2 HB1 hx1 hx2
     go_upto_region 22 with (go_at_call 19; refine HH3.out.mono ?_; rintro e y3 ⟨rfl, hb3⟩)
     clear c0 c1 c2 c3 c4 c5 c6 c7 c8 c9
     have hal3 : Below y3.heap.size y3 (y3.alloc (.cells #[.int .i64 6, .bool (hitI rMix 0 99).back, .int .i64 (-1)] 49)) := (Below.refl _ _).alloc (Nat.le_refl _) _
     have hbq3 : Below W7.heap.size W7 (y3.alloc (.cells #[.int .i64 6, .bool (hitI rMix 0 99).back, .int .i64 (-1)] 49)) := (HB2.out.trans (hb3.mono HB2.out.size)).alloc (HB2.out.trans (hb3.mono HB2.out.size)).size _
     have hx3 := World.alloc_heap_new y3 (.cells #[.int .i64 6, .bool (hitI rMix 0 99).back, .int .i64 (-1)] 49)
     have hl1 := (Array.getElem?_eq_some_iff.1 HX1.out).1
     have hx1 := (hal3.block D1 (Nat.lt_of_lt_of_le hl1 hb3.size)).trans ((hb3.block D1 hl1).trans HX1.out)
     have hl2 := (Array.getElem?_eq_some_iff.1 HX2.out).1
     have hx2 := (hal3.block D2 (Nat.lt_of_lt_of_le hl2 hb3.size)).trans ((hb3.block D2 hl2).trans HX2.out)
     generalize y3.alloc (.cells #[.int .i64 6, .bool (hitI rMix 0 99).back, .int .i64 (-1)] 49) = z3 at hx1 hx2 hx3 hbq3 hal3 ⊢
     obtain ⟨D3, hD3⟩ : ∃ D, y3.heap.size = D := ⟨_, rfl⟩
     rw [hD3] at hx3 ⊢
     have HB3 := Lib.hid hbq3
     clear HX1 hl1
     clear HX2 hl2
     have HX1 := Lib.hid hx1
     have HX2 := Lib.hid hx2
     have HX3 := Lib.hid hx3
     obtain ⟨c0, c1, c2, c3, c4, c5, c6, c7, c8, c9⟩ := HKb.out z3 hbq3
     clear hb3 hal3 hD3 hbq3 HH3 HB2 hx1 hx2 hx3
     have hz3 := HWb.out.trans (HB3.out.mono HWb.out.size)
     have HST := Lib.hid (kn_st0 z3 (HTD.out z3 hz3).1 (HTD.out z3 hz3).2)
     have HP0 : Hid (∀ W, Below w.heap.size w W → Calls Tryz.prog 20 #[.string ⟨#[]⟩, .agg #[.int .i64 0, .int .i64 0, .int .u8 0, .int .i64 0, .int .i8 0], .agg #[.int .i64 0, .bool false, .int .i8 0, .bool false, .bool false], .agg #[.int .i64 4, .bool false, .int .i64 0]] W fun e w' => e = .returned (.int .i64 0) ∧ Below W.heap.size W w') := Lib.hid fun W hb => kn_p0 W (HTD.out W hb).1 (HTD.out W hb).2
     have g1 := HX1.out
     have g2 := HX2.out
     have g3 := HX3.out
     have d10 : z3.cell? ⟨D1, 0, none⟩ = some (.int .i64 1) := by simp [World.cell?, g1]
     have d11 : z3.cell? ⟨D1, 1, none⟩ = some (.bool false) := by simp [World.cell?, g1]
     have d20 : z3.cell? ⟨D2, 0, none⟩ = some (.int .i64 1) := by simp [World.cell?, g2]
     have d21 : z3.cell? ⟨D2, 1, none⟩ = some (.bool true) := by simp [World.cell?, g2]
     have d30 : z3.cell? ⟨D3, 0, none⟩ = some (.int .i64 6) := by simp [World.cell?, g3]
     clear g1 g2 g3 hz3 HX1 HX2 HX3 HPL HHI
     go_upto_region 23 with (first
      | (go_at_call 18; refine HST.out.mono ?_; rintro e y4 ⟨a4, c4', rfl, hb4⟩; have HB4 := Lib.hid (HB3.out.trans (hb4.mono HB3.out.size)); obtain ⟨e0, e1, e2, e3, e4, e5, e6, e7, e8, e9⟩ := HKb.out y4 HB4.out; have HP4 := Lib.hid (HP0.out y4 (HWb.out.trans (HB4.out.mono HWb.out.size))))
      | (go_at_call 20; refine HP4.out.mono ?_; rintro e y5 ⟨rfl, hb5⟩))
     have HB5 := Lib.hid (HB4.out.trans (hb5.mono HB4.out.size))
     clear hb4 hb5 HP4 HP0 HST c0 c1 c2 c3 c4 c5 c6 c7 c8 c9 e0 e1 e2 e3 e4 e5 e6 e7 e8 e9 d10 d11 d20 d21 d30 HB3 HB4
     obtain ⟨S2, hSi, hSo⟩ : ∃ S : World → Prop, (∀ W : World, Below W7.heap.size W7 W → S W) ∧ (∀ W : World, S W → Below W7.heap.size W7 W) := ⟨fun W => Below W7.heap.size W7 W, fun _ h => h, fun _ h => h⟩
     have HSi := Lib.hid hSi
     have hne' : Nonempty (WIn S2) := ⟨⟨_, hSi _ HB5.out⟩⟩
     have s0 : ∀ q : WIn S2, q.w.cell? ⟨A, 0, none⟩ = some (.int .i64 0) := fun q => (HKb.out _ (hSo _ q.h)).1
     have s1 : ∀ q : WIn S2, q.w.cell? ⟨A, 1, none⟩ = some (.bool false) := fun q => (HKb.out _ (hSo _ q.h)).2.1
     have s2 : ∀ q : WIn S2, q.w.cell? ⟨A, 2, none⟩ = some (.int .i8 0) := fun q => (HKb.out _ (hSo _ q.h)).2.2.1
     have s3 : ∀ q : WIn S2, q.w.cell? ⟨A, 3, none⟩ = some (.bool false) := fun q => (HKb.out _ (hSo _ q.h)).2.2.2.1
     have s4 : ∀ q : WIn S2, q.w.cell? ⟨A, 4, none⟩ = some (.bool false) := fun q => (HKb.out _ (hSo _ q.h)).2.2.2.2.1
     clear hSi hSo
     refine wp_region_segP S2 [([1], 0), ([], 2)] [3] (by kernel_rfl) (by kernel_rfl) (HSi.out _ HB5.out.drew) ?_
     simp only [segHP, opsAt, List.filterMap_cons, List.filterMap_nil, List.getElem?_toArray, List.getElem?_cons_zero, List.getElem?_cons_succ]
     show wpQuiet _ _ _ _ [_] _
     repeat (go_big_quiet_step (fail))
     refine wpQuiet_nil ?_
     intro K hK
     have HKK := Lib.hid hK
     clear hK
     show wpList _ _ _ [_] _ _
     go_wp2_with (go_at_call 15; refine (kn_w6 _).mono ?_; rintro e y6 ⟨rfl, hb6⟩)
     have hB6 : Below W7.heap.size W7 y6 := HB5.out.drew.trans (hb6.mono HB5.out.drew.size)
     refine HKK.out _ _ (HSi.out _ hB6) ?_
     clear HKK hb6
     show wpQuiet _ _ _ _ [] _
     refine wpQuiet_nil ?_
     intro K hK
     have HKK := Lib.hid hK
     clear hK
     show wpList _ _ _ [_] _ _
     have hw6 := HWb.out.trans (hB6.mono HWb.out.size)
     go_wp2_with (go_at_call 12; refine (kn_c6 _ (HTD.out _ hw6).1 (HTD.out _ hw6).2).mono ?_; rintro e y7 ⟨a7, c7, rfl, hO7, hb7⟩)
     have hB7 : Below W7.heap.size W7 y7 := hB6.trans (hb7.mono hB6.size)
     refine HKK.out _ _ (HSi.out _ hB7) ?_
     clear HKK hb7 hB6 hw6 s0 s1 s2 s3 s4 HB5
     show wpQuiet _ _ _ _ [_] _
     repeat (go_big_quiet_step (fail))
     refine wpQuiet_nil ?_
     refine NoPanic.normal ?_
     clear hne' HSi
     have HO7 := Lib.hid hO7
     have HB7 := Lib.hid hB7
     have hw7 := HWb.out.trans (hB7.mono HWb.out.size)
     have HC7 := Lib.hid (kn_c7 y7 (HTD.out _ hw7).1 (HTD.out _ hw7).2)
     clear hO7 hB7 hw7
     go_upto_region 24 with (fail)
     go_upto_region 25 with (go_at_call 12; refine HC7.out.mono ?_; rintro e y8 ⟨a8, c8, rfl, hO8, hb8⟩)
     have HO8 := Lib.hid hO8
     have HO78 := Lib.hid (HO7.out.keep hb8)
     have HB8 := Lib.hid (HB7.out.trans (hb8.mono HB7.out.size))
     clear hO8 hb8 HC7 HO7 HB7
     go_upto_region 26 with (first
      | (go_at_call 15; refine (kn_w8 _).mono ?_; rintro e y9 ⟨rfl, hb9⟩; have HB9 := Lib.hid (HB8.out.trans (hb9.mono HB8.out.size)); have hw9 := HWb.out.trans (HB9.out.mono HWb.out.size); have HP9 := Lib.hid (kn_p8 y9 (HTD.out _ hw9).1 (HTD.out _ hw9).2))
      | (go_at_call 20; refine HP9.out.mono ?_; rintro e y10 ⟨rfl, hb10⟩))
     have HB10 := Lib.hid (HB9.out.trans (hb10.mono HB9.out.size))
     have HO710 := (HO78.out.keep hb9).keep hb10
     have HO810 := (HO8.out.keep hb9).keep hb10
     have hw10 := HWb.out.trans (HB10.out.mono HWb.out.size)
     have HAL := Lib.hid (alive_any y10 (HTD.out _ hw10).1 (HTD.out _ hw10).2)
     have HW10 := Lib.hid hw10
     obtain ⟨cx, hcx⟩ : ∃ cx, cellsI (kR kS6 9) = cx := ⟨_, rfl⟩
     obtain ⟨cy, hcy⟩ : ∃ cy, cellsI kR7 = cy := ⟨_, rfl⟩
     have hx1 : cx[1]? = some ⟨⟨#[]⟩, 1, 0, 3, false⟩ := by rw [← hcx, k_x]; rfl
     have hyl : cy.length = 2 := by rw [← hcy]; exact kn_len7
     obtain ⟨q0, hq0⟩ : ∃ q, cy[0]? = some q := ⟨_, List.getElem?_eq_getElem (by omega)⟩
     obtain ⟨q1, hq1⟩ : ∃ q, cy[1]? = some q := ⟨_, List.getElem?_eq_getElem (by omega)⟩
     have hky := k_y
     rw [show cellsI kR7 = cy from hcy] at hky
     have hq0' := congrArg (fun l => l[0]?) hky
     have hq1' := congrArg (fun l => l[1]?) hky
     simp only [List.getElem?_map, hq0, hq1, Option.map_some, List.getElem?_cons_zero, List.getElem?_cons_succ, Option.some.injEq, Prod.mk.injEq] at hq0' hq1'
     rw [hcx] at HO710
     rw [hcy] at HO810
     have hxl : cx.length = 2 := by rw [← hcx]; exact kn_len6
     obtain ⟨G, eG, x0, x1, x2, x3, _, _⟩ := ce_all3 hxl HO710 1 _ hx1
     obtain ⟨G2, eG2, y0, _, _, _, _, _⟩ := ce_all3 hyl HO810 0 _ hq0
     obtain ⟨G3, eG3, v0, _, _, _, v4, _⟩ := ce_all3 hyl HO810 1 _ hq1
     subst eG
     subst eG2
     cases eG3
     rw [hq0'.1] at y0
     rw [hq1'.1] at v0
     rw [hq1'.2] at v4
     clear hb9 hb10 HO78 HO8 HB8 HB9 HP9 hw9 hw10 HO710 HO810 hcx hcy hx1 hyl hq0 hq1 hky hq0' hq1' hxl HKb HWb HB10
     go_wp2_with (go_at_call 14; refine HAL.out.mono ?_; rintro e y11 ⟨rfl, hb11⟩)
     go_ret
     exact ⟨rfl, HW10.out.trans (hb11.mono HW10.out.size)⟩
end
end Go.Proofs.YtlbclfmbejjneaaGreatDoor
