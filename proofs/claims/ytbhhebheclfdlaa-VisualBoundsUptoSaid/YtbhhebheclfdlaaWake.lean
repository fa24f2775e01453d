/- Contract of wakes: the law's own small lines are as the document says. -/
import Derived.Test.YtbhhebheclfdlaaVisG
namespace Go.Proofs.Ytbhhebheclfdlaa
set_option linter.unusedVariables false
set_option linter.unusedSimpArgs false
open Go.RowKit

theorem wk1 : visualI [97, 1488, 1489, 98] 0 = ([0, 1, 1, 0], 0) := by as_aux_lemma => kernel_rfl
theorem wk2 : visualI [1488, 49] 0 = ([1, 2], 1) := by as_aux_lemma => kernel_rfl
theorem wk3 : orderI [0, 1, 1, 0] = [0, 2, 1, 3] := by as_aux_lemma => kernel_rfl
theorem wk4 : rowI [97, 32] [1, 1] 0 0 2 = some [1, 0] := by as_aux_lemma => kernel_rfl
theorem wk5 : turnedI [1, 0] = some [1, 0] := by as_aux_lemma => kernel_rfl
theorem wk6 : mirroredI 40 1 = 41 := by as_aux_lemma => kernel_rfl
/-- a literal slice reads as its list -/
theorem rd_lit {k : IntKind} (w : World) (t : TypeId) (xs : List Int) : Rd k (w.alloc (.cells (xs.map (Value.int k)).toArray t)) (some ⟨w.heap.size, 0, none⟩) xs := by
  refine .inr ⟨w.heap.size, 0, rfl, by simp, fun i hi => ?_⟩
  have h : (xs.map (Value.int k))[i]? = some (.int k (ith xs i)) := by rw [List.getElem?_map, ith_get hi]; rfl
  rw [Nat.zero_add]
  simp only [World.cell?]
  rw [heap_alloc_new]
  simpa using h
set_option maxRecDepth 100000 in
set_option maxHeartbeats 1000000 in
theorem wakes_any (w : World) : Calls Try.prog 16 #[] w fun e w' => e = .returned (.bool true) ∧ Below w.heap.size w w' := by
  have HL := Lib.hid (fun (W : World) (a : Option Addr) (h : Rd .i32 W a [97, 1488, 1489, 98]) => VLevels_any a [97, 1488, 1489, 98] 4 4 0 W rfl h (by decide) (by decide) (by decide))
  have HM := Lib.hid (fun (W : World) (a : Option Addr) (h : Rd .i32 W a [1488, 49]) => VLevels_any a [1488, 49] 2 2 0 W rfl h (by decide) (by decide) (by decide))
  have HO := Lib.hid (fun (W : World) (a : Option Addr) (h : Rd .u8 W a (ints [0, 1, 1, 0])) => Order_any a [0, 1, 1, 0] 4 4 W rfl h (by decide))
  have HR := Lib.hid (fun (W : World) (G1 G2 : Nat) (h : Rd .i32 W (some ⟨G1, 0, none⟩) [97, 32]) (h2 : Rd .u8 W (some ⟨G2, 0, none⟩) (ints [1, 1])) => Row_any (some ⟨G1, 0, none⟩) (some ⟨G2, 0, none⟩) [97, 32] [1, 1] 2 2 2 2 0 0 2 W rfl rfl h h2 (by decide) (by decide) (by decide) (by decide) (.inr ⟨_, _, rfl⟩))
  have HT := Lib.hid (fun (W : World) (a : Option Addr) (h : Rd .i64 W a [1, 0]) => Turned_any a [1, 0] 2 2 W rfl h (by decide))
  unfold VLPost at HL HM
  unfold OrdPost at HO
  unfold RowPost at HR
  unfold OptPost at HT
  rw [wk1] at HL
  rw [wk2] at HM
  rw [wk3] at HO
  rw [wk4] at HR
  rw [wk5] at HT
  go_enter Try.func16, Try.ntmps16
  go_upto_region 2 with (go_at_call 25; refine (HL.out _ _ (rd_lit w _ [97, 1488, 1489, 98])).mono ?_; rintro e w1 ⟨la, lc, rfl, hll, hLO, hb1⟩)
  obtain ⟨G1, hG1, _, _⟩ := hLO.at 0 (by decide)
  subst hG1
  go_upto_region 3 with (go_at_call 25; refine (HM.out _ _ (rd_lit w1 _ [1488, 49])).mono ?_; rintro e w2 ⟨ma, mc, rfl, hml, hMO, hb2⟩)
  obtain ⟨G2, hG2, _, _⟩ := hMO.at 0 (by decide)
  subst hG2
  have k1 : Below w.heap.size w w1 := ((Below.refl w.heap.size w).alloc (Nat.le_refl _) _).trans (hb1.mono (by simp))
  have k2 : Below w1.heap.size w1 w2 := ((Below.refl w1.heap.size w1).alloc (Nat.le_refl _) _).trans (hb2.mono (by simp))
  have L2 := hLO.keep k2
  have b2 : Below w.heap.size w w2 := k1.trans (k2.mono k1.size)
  clear hLO k2 k1 hb1 hb2
  go_upto_region 4 with (go_at_call 19; refine (HO.out _ _ (rd_lit w2 _ (ints [0, 1, 1, 0]))).mono ?_; rintro e w3 ⟨rfl, hOO, hb3⟩)
  have k3 : Below w2.heap.size w2 w3 := ((Below.refl w2.heap.size w2).alloc (Nat.le_refl _) _).trans (hb3.mono (by simp))
  have L3 := L2.keep k3
  have M3 := hMO.keep k3
  have b3 : Below w.heap.size w w3 := b2.trans (k3.mono b2.size)
  clear L2 hMO k3 hb3 b2
  go_upto_region 5 with (go_at_call 13; refine (HR.out _ w3.heap.size (w3.heap.size + 1) ((rd_lit w3 _ [97, 32]).below ((Below.refl _ _).alloc (Nat.le_refl _) _)) (by have := rd_lit (k := .u8) (w3.alloc (.cells #[.int .i32 97, .int .i32 32] 21)) 5 (ints [1, 1]); rwa [World.size_alloc] at this)).mono ?_; rintro e w4 ⟨hb4, ra, rc, rfl, hRO⟩)
  obtain ⟨G4, hG4, _, _⟩ := hRO.at 0 (by decide)
  subst hG4
  have k4 : Below w3.heap.size w3 w4 := (((Below.refl w3.heap.size w3).alloc (Nat.le_refl _) _).alloc (by simp) _).trans (hb4.mono (by simp; omega))
  have L4 := L3.keep k4
  have M4 := M3.keep k4
  have O4 := hOO.keep k4
  have b4 : Below w.heap.size w w4 := b3.trans (k4.mono b3.size)
  clear L3 M3 hOO k4 hb4 b3
  go_upto_region 6 with (go_at_call 20; refine (HT.out _ _ (rd_lit w4 _ [1, 0])).mono ?_; rintro e w5 ⟨hb5, htl, ta, tc, rfl, hTO⟩)
  have k5 : Below w4.heap.size w4 w5 := ((Below.refl w4.heap.size w4).alloc (Nat.le_refl _) _).trans (hb5.mono (by simp))
  have L5 := L4.keep k5
  have M5 := M4.keep k5
  have O5 := O4.keep k5
  have R5 := hRO.keep k5
  have b5 : Below w.heap.size w w5 := b4.trans (k5.mono b4.size)
  clear L4 M4 O4 hRO k5 hb5 b4 hTO
  rw [World.size_alloc] at O5
  have x1 : w5.cell? ⟨G1, 1, none⟩ = some (.int .u8 1) := by obtain ⟨_, e, _, _, h, _⟩ := OutAt.at L5 1 (by decide); cases e; exact h
  have x2 : w5.cell? ⟨G1, 2, none⟩ = some (.int .u8 1) := by obtain ⟨_, e, _, _, h, _⟩ := OutAt.at L5 2 (by decide); cases e; exact h
  have x3 : w5.cell? ⟨G1, 3, none⟩ = some (.int .u8 0) := by obtain ⟨_, e, _, _, h, _⟩ := OutAt.at L5 3 (by decide); cases e; exact h
  have y0 : w5.cell? ⟨G2, 0, none⟩ = some (.int .u8 1) := by obtain ⟨_, e, _, _, h, _⟩ := OutAt.at M5 0 (by decide); cases e; exact h
  have y1 : w5.cell? ⟨G2, 1, none⟩ = some (.int .u8 2) := by obtain ⟨_, e, _, _, h, _⟩ := OutAt.at M5 1 (by decide); cases e; exact h
  have o1 : w5.cell? ⟨w2.heap.size + 1, 1, none⟩ = some (.int .i64 2) := by obtain ⟨_, e, _, _, h, _⟩ := OutAt.at O5 1 (by decide); cases e; exact h
  have o2 : w5.cell? ⟨w2.heap.size + 1, 2, none⟩ = some (.int .i64 1) := by obtain ⟨_, e, _, _, h, _⟩ := OutAt.at O5 2 (by decide); cases e; exact h
  have r0 : w5.cell? ⟨G4, 0, none⟩ = some (.int .u8 1) := by obtain ⟨_, e, _, _, h, _⟩ := OutAt.at R5 0 (by decide); cases e; exact h
  have r1 : w5.cell? ⟨G4, 1, none⟩ = some (.int .u8 0) := by obtain ⟨_, e, _, _, h, _⟩ := OutAt.at R5 1 (by decide); cases e; exact h
  have HMI : Hid (∀ W, Calls Try.prog 22 #[.int .i32 40, .int .u8 1] W fun e w' => e = .returned (.int .i32 41) ∧ W = w') := Lib.hid fun W => by rw [← wk6]; exact Mirrored_any 40 1 W (by decide)
  clear L5 M5 O5 R5 HL HM HO HR HT
  go_wp2_with (go_at_call 22; refine (HMI.out _).mono ?_; rintro e w' ⟨rfl, hw'⟩; subst hw')
  go_ret
  exact ⟨rfl, b5⟩
end Go.Proofs.Ytbhhebheclfdlaa
