/- Plain laws of layer 7's levels: their bounds. No program is in sight. -/
import Derived.Test.YtbhhebheclfdlaaPlainPile
namespace Go.Proofs.Ytbhhebheclfdlaa
set_option linter.unusedVariables false
set_option linter.unusedSimpArgs false

theorem LPile.Ok.said {P : LPile} {i : Nat} (h : P.Ok i) (d : Int) (h0 : 0 ≤ d) (h1 : d ≤ 22) : 0 ≤ P.said d ∧ P.said d ≤ 22 := by
  have := h.top
  unfold LPile.said
  split <;> omega
theorem LPile.Ok.step_bd {P : LPile} {i : Nat} (h : P.Ok i) (base : Nat) (hb : base ≤ 125) (ds : List Int) (j : Nat) : (P.step base ds j).2.1 ≤ 125 ∧ 0 ≤ (P.step base ds j).2.2 ∧ (P.step base ds j).2.2 ≤ 22 := by
  have hk := lkn_bd (ith ds j)
  have t := h.top.1
  have s := h.said (lkn (ith ds j)) hk.1 hk.2
  unfold LPile.step
  simp only
  split
  · exact ⟨t, by simp, by simp⟩
  split
  · exact ⟨t, s⟩
  split
  · exact ⟨h.close.top.1, h.close.said _ hk.1 hk.2⟩
  split
  · exact ⟨h.fin.top.1, by simp, by simp⟩
  split
  · exact ⟨t, by simp, by simp⟩
  split
  · exact ⟨hb, by simp, by simp⟩
  · exact ⟨t, s⟩
theorem levF_ok (base : Nat) (hb : base ≤ 125) (ds : List Int) : ∀ (m i : Nat) (P : LPile) (ls : List Nat) (ks : List Int), P.Ok i → ls.length = i → ks.length = i → (∀ l ∈ ls, l ≤ 125) → (∀ k ∈ ks, 0 ≤ k ∧ k ≤ 22) →
    (levF base ds m i P ls ks).1.length = i + m ∧ (levF base ds m i P ls ks).2.length = i + m ∧ (∀ l ∈ (levF base ds m i P ls ks).1, l ≤ 125) ∧ (∀ k ∈ (levF base ds m i P ls ks).2, 0 ≤ k ∧ k ≤ 22)
  | 0, i, P, ls, ks, h, h1, h2, h3, h4 => ⟨h1, h2, h3, h4⟩
  | m + 1, i, P, ls, ks, h, h1, h2, h3, h4 => by
    rw [levF, show i + (m + 1) = (i + 1) + m by omega]
    have hs := h.step_bd base hb ds i
    refine levF_ok base hb ds m (i + 1) _ _ _ (h.step base hb ds i) (by simp [h1]) (by simp [h2]) (fun l hl => ?_) fun k hk => ?_
    · rw [List.mem_append, List.mem_singleton] at hl
      rcases hl with hl | rfl
      · exact h3 l hl
      · exact hs.1
    · rw [List.mem_append, List.mem_singleton] at hk
      rcases hk with hk | rfl
      · exact h4 k hk
      · exact hs.2
theorem levI_ok (ds : List Int) (base : Nat) : (levI ds base).1.length = ds.length ∧ (levI ds base).2.length = ds.length ∧ (∀ l ∈ (levI ds base).1, l ≤ 125) ∧ (∀ k ∈ (levI ds base).2, 0 ≤ k ∧ k ≤ 22) := by
  have := levF_ok (min base 125) (by omega) ds ds.length 0 ⟨[⟨min base 125, -1, false⟩], 0, 0, 0⟩ [] [] (LPile.begin_ok _ 0 (by omega)) rfl rfl (fun l hl => by simp at hl) (fun k hk => by simp at hk)
  rw [Nat.zero_add] at this
  exact this
end Go.Proofs.Ytbhhebheclfdlaa
