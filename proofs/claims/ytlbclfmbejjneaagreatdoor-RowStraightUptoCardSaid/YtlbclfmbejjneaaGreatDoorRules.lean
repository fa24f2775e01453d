/- Contracts of breaks.rules' closures and of pair.spaced: each tells its rule of a pair. No conditions. -/
import Derived.Test.YtlbclfmbejjneaaGreatDoorEndsP
namespace Go.Proofs.YtlbclfmbejjneaaGreatDoor
set_option linter.unusedVariables false
set_option linter.unusedSimpArgs false
open Go.RowKit Go.Proofs

/-- a pair, as the code holds it -/
abbrev pairV (a b s : Int) : Value := .agg #[.int .i8 a, .int .i8 b, .int .i8 s]
def RulP (c : Bool) (w : World) (e : Ending) (w' : World) : Prop := e = .returned (.bool c) ∧ Below w.heap.size w w'
theorem spaced_any (a b s : Int) (w : World) : Calls Tryz.prog 143 #[pairV a b s] w (RulP (decide (a = 1)) w) := by
  go_enter Tryz.func143, Tryz.ntmps143
  go_wp2
  all_goals go_ret
  all_goals (refine ⟨ret_b ?_, (Below.refl _ _).alloc (Nat.le_refl _) _⟩; rw [Bool.eq_iff_iff]; simp)
theorem rule0_any (a b s : Int) (w : World) : Calls Tryz.prog 169 #[pairV a b s] w (RulP (decide (a = 2)) w) := by
  go_enter Tryz.func169, Tryz.ntmps169
  go_wp2
  all_goals go_ret
  all_goals (refine ⟨ret_b ?_, (Below.refl _ _).alloc (Nat.le_refl _) _⟩; rw [Bool.eq_iff_iff]; simp; try omega)
theorem rule1_any (a b s : Int) (w : World) : Calls Tryz.prog 170 #[pairV a b s] w (RulP (decide (b = 2 ∨ b = 1 ∨ b = 9)) w) := by
  go_enter Tryz.func170, Tryz.ntmps170
  go_wp2
  all_goals go_ret
  all_goals (refine ⟨ret_b ?_, (Below.refl _ _).alloc (Nat.le_refl _) _⟩; rw [Bool.eq_iff_iff]; simp; try omega)
theorem rule2_any (a b s : Int) (w : World) : Calls Tryz.prog 171 #[pairV a b s] w (RulP (decide (s = 9)) w) := by
  go_enter Tryz.func171, Tryz.ntmps171
  go_wp2
  all_goals go_ret
  all_goals (refine ⟨ret_b ?_, (Below.refl _ _).alloc (Nat.le_refl _) _⟩; rw [Bool.eq_iff_iff]; simp; try omega)
theorem rule3_any (a b s : Int) (w : World) : Calls Tryz.prog 172 #[pairV a b s] w (RulP (decide (a = 12 ∨ b = 12 ∨ a = 5)) w) := by
  go_enter Tryz.func172, Tryz.ntmps172
  go_wp2
  all_goals go_ret
  all_goals (refine ⟨ret_b ?_, (Below.refl _ _).alloc (Nat.le_refl _) _⟩; rw [Bool.eq_iff_iff]; simp; try omega)
theorem rule5_any (a b s : Int) (w : World) : Calls Tryz.prog 174 #[pairV a b s] w (RulP (decide (b = 4 ∨ s = 3)) w) := by
  go_enter Tryz.func174, Tryz.ntmps174
  go_wp2
  all_goals go_ret
  all_goals (refine ⟨ret_b ?_, (Below.refl _ _).alloc (Nat.le_refl _) _⟩; rw [Bool.eq_iff_iff]; simp; try omega)
theorem rule8_any (a b s : Int) (w : World) : Calls Tryz.prog 176 #[pairV a b s] w (RulP (decide (b = 6)) w) := by
  go_enter Tryz.func176, Tryz.ntmps176
  go_wp2
  all_goals go_ret
  all_goals (refine ⟨ret_b ?_, (Below.refl _ _).alloc (Nat.le_refl _) _⟩; rw [Bool.eq_iff_iff]; simp; try omega)
theorem rule9_any (a b s : Int) (w : World) : Calls Tryz.prog 177 #[pairV a b s] w (RulP (decide (a = 6 ∧ b = 10)) w) := by
  go_enter Tryz.func177, Tryz.ntmps177
  go_wp2
  all_goals go_ret
  all_goals (refine ⟨ret_b ?_, (Below.refl _ _).alloc (Nat.le_refl _) _⟩; rw [Bool.eq_iff_iff]; simp; try omega)
theorem rule10_any (a b s : Int) (w : World) : Calls Tryz.prog 178 #[pairV a b s] w (RulP (decide (a = 6)) w) := by
  go_enter Tryz.func178, Tryz.ntmps178
  go_wp2
  all_goals go_ret
  all_goals (refine ⟨ret_b ?_, (Below.refl _ _).alloc (Nat.le_refl _) _⟩; rw [Bool.eq_iff_iff]; simp; try omega)
theorem rule11_any (a b s : Int) (w : World) : Calls Tryz.prog 179 #[pairV a b s] w (RulP (decide (a = 7 ∨ b = 7)) w) := by
  go_enter Tryz.func179, Tryz.ntmps179
  go_wp2
  all_goals go_ret
  all_goals (refine ⟨ret_b ?_, (Below.refl _ _).alloc (Nat.le_refl _) _⟩; rw [Bool.eq_iff_iff]; simp; try omega)
set_option maxHeartbeats 1000000 in
theorem rule4_any (a b s : Int) (w : World) : Calls Tryz.prog 173 #[pairV a b s] w (RulP (decide (b = 5 ∧ a ≠ 1 ∧ a ≠ 6)) w) := by
  have hb0 : Below w.heap.size w (w.alloc (.cells #[.int .i8 a, .int .i8 b, .int .i8 s] 209)) := (Below.refl _ _).alloc (Nat.le_refl _) _
  have hc0 : (w.alloc (.cells #[.int .i8 a, .int .i8 b, .int .i8 s] 209)).cell? ⟨w.heap.size, 0, none⟩ = some (.int .i8 a) := by unfold World.cell?; rw [heap_alloc_new]; rfl
  have HB0 := Lib.hid hb0
  have HC0 := Lib.hid hc0
  clear hb0 hc0
  go_enter Tryz.func173, Tryz.ntmps173
  by_cases e5 : b = 5
  · subst e5
    by_cases e1 : a = 1
    · subst e1
      go_wp2_with (go_at_call 143; refine (spaced_any _ _ _ _).mono ?_; rintro e w1 ⟨rfl, hb1⟩; have hc1 := cell_bl hb1 (cell_lt HC0.out) HC0.out)
      go_ret
      exact ⟨ret_b (by simp), HB0.out.trans (hb1.mono HB0.out.size)⟩
    · go_wp2_with (go_at_call 143; refine (spaced_any _ _ _ _).mono ?_; rw [decide_eq_false e1]; rintro e w1 ⟨rfl, hb1⟩; have hc1 := cell_bl hb1 (cell_lt HC0.out) HC0.out)
      go_ret
      exact ⟨ret_b (by rw [Bool.eq_iff_iff]; simp [e1]), HB0.out.trans (hb1.mono HB0.out.size)⟩
  · have c5 : (b == 5) = false := by simpa using e5
    go_wp2_with (fail)
    go_ret
    exact ⟨ret_b (by simp [e5]), HB0.out⟩
set_option maxHeartbeats 1000000 in
theorem rule6_any (a b s : Int) (w : World) : Calls Tryz.prog 175 #[pairV a b s] w (RulP (decide (b = 11 ∧ a ≠ 1)) w) := by
  have hb0 : Below w.heap.size w (w.alloc (.cells #[.int .i8 a, .int .i8 b, .int .i8 s] 209)) := (Below.refl _ _).alloc (Nat.le_refl _) _
  have hc0 : (w.alloc (.cells #[.int .i8 a, .int .i8 b, .int .i8 s] 209)).cell? ⟨w.heap.size, 0, none⟩ = some (.int .i8 a) := by unfold World.cell?; rw [heap_alloc_new]; rfl
  have HB0 := Lib.hid hb0
  have HC0 := Lib.hid hc0
  clear hb0 hc0
  go_enter Tryz.func175, Tryz.ntmps175
  by_cases e5 : b = 11
  · subst e5
    by_cases e1 : a = 1
    · subst e1
      go_wp2_with (go_at_call 143; refine (spaced_any _ _ _ _).mono ?_; rintro e w1 ⟨rfl, hb1⟩; have hc1 := cell_bl hb1 (cell_lt HC0.out) HC0.out)
      go_ret
      exact ⟨ret_b (by simp), HB0.out.trans (hb1.mono HB0.out.size)⟩
    · go_wp2_with (go_at_call 143; refine (spaced_any _ _ _ _).mono ?_; rw [decide_eq_false e1]; rintro e w1 ⟨rfl, hb1⟩; have hc1 := cell_bl hb1 (cell_lt HC0.out) HC0.out)
      go_ret
      exact ⟨ret_b (by rw [Bool.eq_iff_iff]; simp [e1]), HB0.out.trans (hb1.mono HB0.out.size)⟩
  · have c5 : (b == 11) = false := by simpa using e5
    go_wp2_with (fail)
    go_ret
    exact ⟨ret_b (by simp [e5]), HB0.out⟩
end Go.Proofs.YtlbclfmbejjneaaGreatDoor
