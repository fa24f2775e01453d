/- A map of places that reads as a list of pairs, the newest first. No program is in sight. -/
import Derived.Test.YtbhhebheclfdlaaPlainRuns
import Derived.Maps.OwnSet
import Derived.Maps.OwnOps
import Derived.Maps.Views
namespace Go.Proofs.Ytbhhebheclfdlaa
set_option linter.unusedVariables false
set_option linter.unusedSimpArgs false
open Go.RowKit Go.Maps

def gfind (goes : List (Nat × Nat)) (j : Nat) : Option Nat := (goes.find? (fun x => x.1 == j)).map (·.2)
structure MapIs (D : DataW Unit) (goes : List (Nat × Nat)) : Prop where
  isMap : IsMap D
  none_ : ∀ j : Nat, gfind goes j = none → Maps.has D (.int .i64 j) = false
  some_ : ∀ j k : Nat, gfind goes j = some k → Maps.has D (.int .i64 j) = true ∧ D.atKey (.int .i64 j) (.lit (.int .i64 0)) = .lit (.int .i64 k)
theorem MapIs.nil : MapIs (.map []) [] := ⟨isMap_empty, fun j h => rfl, fun j k h => by cases h⟩
theorem gfind_cons (goes : List (Nat × Nat)) (j k i : Nat) : gfind ((j, k) :: goes) i = if j = i then some k else gfind goes i := by
  unfold gfind
  rw [List.find?_cons]
  by_cases h : j = i
  · have : (j == i) = true := by simpa using h
    simp only [this, if_pos h, Option.map_some]
  · have : (j == i) = false := by simpa using h
    simp only [this, if_neg h]
theorem MapIs.put {D : DataW Unit} {goes : List (Nat × Nat)} (h : MapIs D goes) (j k : Nat) : MapIs (D.put (.int .i64 j) (.lit (.int .i64 k))) ((j, k) :: goes) := by
  have hk : WideAt.IsKeyLit (.int .i64 (j : Int)) := trivial
  refine ⟨h.isMap.put _ _, fun i hi => ?_, fun i q hi => ?_⟩
  · rw [gfind_cons] at hi
    by_cases e : j = i
    · rw [if_pos e] at hi; cases hi
    · rw [if_neg e] at hi
      rw [has_put_other (fun e' => e (by cases e'; rfl))]
      exact h.none_ i hi
  · rw [gfind_cons] at hi
    by_cases e : j = i
    · rw [if_pos e] at hi
      cases hi
      subst e
      exact ⟨has_put_same h.isMap hk _, atKey_put_same h.isMap hk _ _⟩
    · rw [if_neg e] at hi
      have hne : (Lit.int .i64 (i : Int)) ≠ .int .i64 (j : Int) := fun e' => by
        injection e' with _ e'
        omega
      rw [has_put_other hne, atKey_put_other hne]
      exact h.some_ i q hi
end Go.Proofs.Ytbhhebheclfdlaa
