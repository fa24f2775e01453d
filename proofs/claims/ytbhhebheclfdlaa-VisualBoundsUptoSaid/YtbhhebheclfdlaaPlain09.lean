/- Plain laws of layer 9: the pairs that are found lie in the text, the first ahead of the second; no program is in sight. -/
import Derived.Test.YtbhhebheclfdlaaSpec09
namespace Go.Proofs.Ytbhhebheclfdlaa
set_option linter.unusedVariables false
set_option linter.unusedSimpArgs false

theorem findTop_lt : ∀ (st : List (Nat × Int)) (r : Int) (n k : Nat), findTop st r n = some k → k < n ∧ (st.getD k (0, 0)).2 = r
  | st, r, 0, k, h => by simp [findTop] at h
  | st, r, n + 1, k, h => by
    unfold findTop at h
    split at h
    · rename_i h1; cases h; exact ⟨by omega, h1⟩
    · have := findTop_lt st r n k h; exact ⟨by omega, this.2⟩

theorem getD_mem {α : Type} (l : List α) (d : α) (i : Nat) (h : i < l.length) : l.getD i d ∈ l := by
  rw [List.getD_eq_getElem?_getD, List.getElem?_eq_getElem h]
  exact List.getElem_mem h

theorem brkF_mem (rs ks : List Int) : ∀ (m i : Nat) (st : List (Nat × Int)) (out : List (Nat × Nat)), (∀ x ∈ st, x.1 < i) → (∀ p ∈ out, p.1 < p.2 ∧ p.2 < i) →
    ∀ p ∈ brkF rs ks m i st out, p.1 < p.2 ∧ p.2 < i + m
  | 0, i, st, out, _, ho, p, hp => by have := ho p hp; omega
  | m + 1, i, st, out, hs, ho, p, hp => by
    have hs' : ∀ x ∈ st, x.1 < i + 1 := fun x hx => by have := hs x hx; omega
    have ho' : ∀ p ∈ out, p.1 < p.2 ∧ p.2 < i + 1 := fun p hp => by have := ho p hp; omega
    unfold brkF at hp
    split at hp
    · have := brkF_mem rs ks m (i + 1) st out hs' ho' p hp; omega
    · split at hp
      · split at hp
        · have := ho p hp; omega
        · have := brkF_mem rs ks m (i + 1) _ out (fun x hx => by
            rw [List.mem_append, List.mem_singleton] at hx
            rcases hx with hx | hx
            · exact hs' x hx
            · subst hx; show i < i + 1; omega) ho' p hp
          omega
      · split at hp
        · have := brkF_mem rs ks m (i + 1) st out hs' ho' p hp; omega
        · rename_i k hk
          have hkl := (findTop_lt st _ _ k hk).1
          have := brkF_mem rs ks m (i + 1) _ _ (fun x hx => hs' x (List.mem_of_mem_take hx)) (fun q hq => by
            rw [List.mem_append, List.mem_singleton] at hq
            rcases hq with hq | hq
            · exact ho' q hq
            · subst hq; have := hs _ (getD_mem st (0, 0) k hkl); exact ⟨this, by show i < i + 1; omega⟩) p hp
          omega
end Go.Proofs.Ytbhhebheclfdlaa
