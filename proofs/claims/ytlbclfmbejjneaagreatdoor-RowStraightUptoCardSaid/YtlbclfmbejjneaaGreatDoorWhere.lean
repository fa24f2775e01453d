/- Contract of breaks.rules (the table of closures), and what breaks.Where lays, cluster after cluster. -/
import Derived.Test.YtlbclfmbejjneaaGreatDoorRules
namespace Go.Proofs.YtlbclfmbejjneaaGreatDoor
set_option linter.unusedVariables false
set_option linter.unusedSimpArgs false
open Go.RowKit Go.Proofs Go.Shelf
attribute [local go_sem] Oper.semAt_some

def rulF : Nat → Nat
  | 0 => 169 | 1 => 170 | 2 => 171 | 3 => 172 | 4 => 173 | 5 => 174
  | 6 => 175 | 7 => 143 | 8 => 176 | 9 => 177 | 10 => 178 | _ => 179
def rulV : Nat → Int
  | 0 => 2 | 1 => 0 | 2 => 1 | 3 => 0 | 4 => 0 | 5 => 0 | 6 => 0 | 7 => 1 | 8 => 0 | 9 => 0 | 10 => 1 | _ => 1
def rulB (a b s : Int) : Nat → Bool
  | 0 => decide (a = 2) | 1 => decide (b = 2 ∨ b = 1 ∨ b = 9) | 2 => decide (s = 9) | 3 => decide (a = 12 ∨ b = 12 ∨ a = 5) | 4 => decide (b = 5 ∧ a ≠ 1 ∧ a ≠ 6) | 5 => decide (b = 4 ∨ s = 3)
  | 6 => decide (b = 11 ∧ a ≠ 1) | 7 => decide (a = 1) | 8 => decide (b = 6) | 9 => decide (a = 6 ∧ b = 10) | 10 => decide (a = 6) | _ => decide (a = 7 ∨ b = 7)
/-- the first rule that applies, from rule i on, m rules being asked; else acc -/
def rulL (a b s acc : Int) : Nat → Nat → Int
  | 0, _ => acc
  | m + 1, i => if rulB a b s i = true then rulV i else rulL a b s acc m (i + 1)
theorem rulL_all (a b s : Int) : rulL a b s 0 12 0 = ruleI a b s := by
  unfold ruleI
  simp only [rulL, rulB, rulV, decide_eq_true_eq]
def rulCells : List Value := (List.range 12).flatMap fun i => [.func (.func (rulF i)) #[] #[], .int .i8 (rulV i)]
theorem brules_any (w : World) : Calls Tryz.prog 142 #[] w fun e w' => e = .returned (.slice (some ⟨w.heap.size, 0, none⟩) 12 12) ∧ w' = w.alloc (.cells rulCells.toArray 212) := by
  go_enter Tryz.func142, Tryz.ntmps142
  go_wp2
  go_ret
  exact ⟨rfl, rfl⟩
theorem rule_any (i : Nat) (hi : i < 12) (a b s : Int) (w : World) : Calls Tryz.prog (rulF i) #[pairV a b s] w (RulP (rulB a b s i) w) := by
  have : i = 0 ∨ i = 1 ∨ i = 2 ∨ i = 3 ∨ i = 4 ∨ i = 5 ∨ i = 6 ∨ i = 7 ∨ i = 8 ∨ i = 9 ∨ i = 10 ∨ i = 11 := by omega
  rcases this with rfl | rfl | rfl | rfl | rfl | rfl | rfl | rfl | rfl | rfl | rfl | rfl
  · exact rule0_any a b s w
  · exact rule1_any a b s w
  · exact rule2_any a b s w
  · exact rule3_any a b s w
  · exact rule4_any a b s w
  · exact rule5_any a b s w
  · exact rule6_any a b s w
  · exact spaced_any a b s w
  · exact rule8_any a b s w
  · exact rule9_any a b s w
  · exact rule10_any a b s w
  · exact rule11_any a b s w
end Go.Proofs.YtlbclfmbejjneaaGreatDoor
