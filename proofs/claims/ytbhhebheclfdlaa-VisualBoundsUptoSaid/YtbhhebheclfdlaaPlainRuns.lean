/- Plain laws of layer 7's runs: what holds behind so many places. No program is in sight. -/
import Derived.Test.YtbhhebheclfdlaaSpec07
namespace Go.Proofs.Ytbhhebheclfdlaa
set_option linter.unusedVariables false
set_option linter.unusedSimpArgs false

structure RSt.Ok (s : RSt) (i : Nat) : Prop where
  run : ∀ k, k < s.out.length → s.out.getD k [] ≠ [] ∧ (∀ p ∈ s.out.getD k [], p < i) ∧ (s.out.getD k []).length ≤ i
  now0 : -1 ≤ s.now
  now1 : s.now < s.out.length
  last0 : -1 ≤ s.last
  last1 : s.last < i
  goes : ∀ x ∈ s.goes, x.2 < s.out.length
  len : s.out.length ≤ i
theorem RSt.start_ok : RSt.Ok ⟨[], [], -1, -1⟩ 0 :=
  ⟨fun k hk => absurd hk (by simp), by simp, by simp, by simp, by simp, fun x hx => by simp at hx, by simp⟩
theorem RSt.Ok.find_lt {s : RSt} {i j k : Nat} (h : s.Ok i) (hf : s.find j = some k) : k < s.out.length := by
  unfold RSt.find at hf
  cases hx : s.goes.find? (fun x => x.1 == j) with
  | none => rw [hx] at hf; cases hf
  | some y =>
    rw [hx] at hf
    cases hf
    exact h.goes y (List.mem_of_find?_eq_some hx)
theorem RSt.Ok.at_lt {s : RSt} {i j k : Nat} {ps : List Int} (h : s.Ok i) (hf : s.at ps j = some k) : k < s.out.length := by
  unfold RSt.at at hf
  cases hx : s.find j with
  | none => rw [hx] at hf; cases hf
  | some y =>
    rw [hx] at hf
    simp only at hf
    split at hf
    · cases hf
    · cases hf; exact h.find_lt hx
/-- a place is put into the run k: one that is there, or the next new one -/
def RSt.put (s : RSt) (k : Nat) (i : Nat) (last : Int) (goes : List (Nat × Nat)) : RSt :=
  { out := if k < s.out.length then s.out.set k (s.out.getD k [] ++ [i]) else s.out ++ [[i]], goes := goes, now := k, last := last }
theorem RSt.Ok.put {s : RSt} {i : Nat} (h : s.Ok i) (k : Nat) (hk : k ≤ s.out.length) (last : Int) (hl0 : -1 ≤ last) (hl1 : last < (i : Int) + 1) (g : List (Nat × Nat)) (hg : ∀ x ∈ g, x ∈ s.goes ∨ x.2 = k) :
    (s.put k i last g).Ok (i + 1) := by
  unfold RSt.put
  by_cases hlt : k < s.out.length
  · rw [if_pos hlt]
    have gd : ∀ j, (s.out.set k (s.out.getD k [] ++ [i])).getD j [] = if k = j then s.out.getD k [] ++ [i] else s.out.getD j [] := fun j => by
      rw [List.getD_eq_getElem?_getD, List.getElem?_set, List.getD_eq_getElem?_getD]
      by_cases e : k = j
      · subst e; rw [if_pos rfl, if_pos hlt, if_pos rfl]; rfl
      · rw [if_neg e, if_neg e, List.getD_eq_getElem?_getD]
    refine ⟨fun j hj => ?_, by simp only; omega, by simp only [List.length_set]; omega, hl0, by simp only; omega, fun x hx => ?_, by simp only [List.length_set]; have := h.len; omega⟩
    · simp only [List.length_set] at hj
      simp only
      rw [gd j]
      by_cases e : k = j
      · rw [if_pos e]
        have hr := h.run k hlt
        refine ⟨by simp, fun p hp => ?_, by rw [List.length_append, List.length_singleton]; omega⟩
        rw [List.mem_append, List.mem_singleton] at hp
        rcases hp with hp | hp
        · have := hr.2.1 p hp; omega
        · omega
      · rw [if_neg e]
        have hr := h.run j hj
        exact ⟨hr.1, fun p hp => by have := hr.2.1 p hp; omega, by omega⟩
    · simp only [List.length_set]
      rcases hg x hx with hx | hx
      · exact h.goes x hx
      · omega
  · rw [if_neg hlt]
    have hke : k = s.out.length := by omega
    refine ⟨fun j hj => ?_, by simp only; omega, by simp only [List.length_append, List.length_singleton]; omega, hl0, by simp only; omega, fun x hx => ?_, by simp only [List.length_append, List.length_singleton]; have := h.len; omega⟩
    · simp only [List.length_append, List.length_singleton] at hj
      simp only
      rcases Nat.lt_or_ge j s.out.length with h' | h'
      · rw [List.getD_eq_getElem?_getD, List.getElem?_append_left h', ← List.getD_eq_getElem?_getD]
        have hr := h.run j h'
        exact ⟨hr.1, fun p hp => by have := hr.2.1 p hp; omega, by omega⟩
      · have hje : j = s.out.length := by omega
        rw [List.getD_eq_getElem?_getD, hje, List.getElem?_append_right (Nat.le_refl _), Nat.sub_self]
        exact ⟨by simp, fun p hp => by simp at hp; omega, by simp⟩
    · simp only [List.length_append, List.length_singleton]
      rcases hg x hx with hx | hx
      · have := h.goes x hx; omega
      · omega
/-- which run takes the place -/
def RSt.pick (s : RSt) (ls ps : List Int) (i : Nat) : Nat :=
  if s.now < 0 ∨ s.last < 0 ∨ ith ls s.last.toNat ≠ ith ls i then (s.at ps i).getD s.out.length else s.now.toNat
theorem RSt.Ok.pick_le {s : RSt} {i : Nat} (h : s.Ok i) (ls ps : List Int) : s.pick ls ps i ≤ s.out.length := by
  unfold RSt.pick
  split
  · cases hx : s.at ps i with
    | none => simp
    | some k => have := h.at_lt hx; simp; omega
  · have := h.now1; have := h.now0; omega
def RSt.gone (s : RSt) (ds ps : List Int) (i k : Nat) : List (Nat × Nat) := if opensB (lkn (ith ds i)) = true ∧ 0 ≤ ith ps i then ((ith ps i).toNat, k) :: s.goes else s.goes
theorem RSt.Ok.step_put {s : RSt} {i : Nat} (h : s.Ok i) (ds ls ps : List Int) :
    s.step ds ls ps i = if leftB (lkn (ith ds i)) = true then s else s.put (s.pick ls ps i) i (if lkn (ith ds i) = 10 then -1 else i) (s.gone ds ps i (s.pick ls ps i)) := by
  unfold RSt.step
  simp only
  by_cases hb : leftB (lkn (ith ds i)) = true
  · rw [if_pos hb, if_pos hb]
  · rw [if_neg hb, if_neg hb]
    unfold RSt.put RSt.pick RSt.gone
    by_cases hf : s.now < 0 ∨ s.last < 0 ∨ ith ls s.last.toNat ≠ ith ls i
    · have hfb : (decide (s.now < 0) || decide (s.last < 0) || decide (ith ls s.last.toNat ≠ ith ls i)) = true := by
        simp only [Bool.or_eq_true, decide_eq_true_eq]
        rcases hf with h1 | h1 | h1
        · exact .inl (.inl h1)
        · exact .inl (.inr h1)
        · exact .inr h1
      rw [hfb, if_pos hf]
      simp only [if_true, true_and]
      cases hx : s.at ps i with
      | none =>
        simp only [Option.isNone_none, Option.getD_none, if_true]
        rw [if_neg (Nat.lt_irrefl _)]
        congr 1
        rw [List.getD_eq_getElem?_getD, List.getElem?_append_right (Nat.le_refl _), Nat.sub_self]
        rw [List.set_append_right _ _ (Nat.le_refl _), Nat.sub_self]
        rfl
      | some k =>
        have hk := h.at_lt hx
        simp only [Option.isNone_some, Option.getD_some]
        rw [if_neg (by decide), if_pos hk]
    · have hfb : (decide (s.now < 0) || decide (s.last < 0) || decide (ith ls s.last.toNat ≠ ith ls i)) = false := by
        rw [Bool.eq_false_iff]
        intro e
        simp only [Bool.or_eq_true, decide_eq_true_eq] at e
        exact hf (by
          rcases e with (e | e) | e
          · exact .inl e
          · exact .inr (.inl e)
          · exact .inr (.inr e))
      rw [hfb, if_neg hf]
      have h1 := h.now1
      have h2 : ¬ s.now < 0 := fun e => hf (.inl e)
      have h3 : s.now.toNat < s.out.length := by have := h.now0; omega
      simp only [Bool.false_eq_true, if_false, false_and]
      rw [if_pos h3]
theorem RSt.Ok.step {s : RSt} {i : Nat} (h : s.Ok i) (ds ls ps : List Int) : (s.step ds ls ps i).Ok (i + 1) := by
  rw [h.step_put ds ls ps]
  by_cases hb : leftB (lkn (ith ds i)) = true
  · rw [if_pos hb]
    refine ⟨fun k hk => ?_, h.now0, h.now1, h.last0, by have := h.last1; omega, h.goes, by have := h.len; omega⟩
    have hr := h.run k hk
    exact ⟨hr.1, fun p hp => by have := hr.2.1 p hp; omega, by omega⟩
  · rw [if_neg hb]
    refine h.put _ (h.pick_le ls ps) _ (by split <;> omega) (by split <;> omega) _ fun x hx => ?_
    unfold RSt.gone at hx
    split at hx
    · rw [List.mem_cons] at hx
      rcases hx with rfl | hx
      · exact .inr rfl
      · exact .inl hx
    · exact .inl hx
theorem runsF_ok (ds ls ps : List Int) : ∀ (m i : Nat) (s : RSt), s.Ok i → (runsF ds ls ps m i s).Ok (i + m)
  | 0, i, s, h => h
  | m + 1, i, s, h => by
    rw [runsF, show i + (m + 1) = (i + 1) + m by omega]
    exact runsF_ok ds ls ps m (i + 1) _ (h.step ds ls ps)
theorem runsI_ok (ds ls : List Int) : ∀ run ∈ runsI ds ls, run ≠ [] ∧ (∀ p ∈ run, p < min ds.length ls.length) ∧ run.length ≤ min ds.length ls.length := by
  intro run hrun
  have h := runsF_ok (ds.take (min ds.length ls.length)) ls (pairsI (ds.take (min ds.length ls.length))) (min ds.length ls.length) 0 ⟨[], [], -1, -1⟩ RSt.start_ok
  rw [Nat.zero_add] at h
  unfold runsI at hrun
  obtain ⟨k, hk, he⟩ := List.getElem_of_mem hrun
  have := h.run k hk
  rw [List.getD_eq_getElem?_getD, List.getElem?_eq_getElem hk] at this
  simp only [Option.getD_some] at this
  rw [he] at this
  exact this
/-- the partners lie in the list -/
theorem pairsF_bd (ds : List Int) (n : Nat) : ∀ (m i : Nat) (opn : List Nat) (out : List Int), i + m = n → (∀ p ∈ opn, p < i) → (∀ x ∈ out, -1 ≤ x ∧ x < n ∨ x = 0) → ∀ x ∈ pairsF ds m i opn out, -1 ≤ x ∧ x < n ∨ x = 0
  | 0, i, opn, out, him, ho, h => h
  | m + 1, i, opn, out, him, ho, h => by
    have hset : ∀ (l : List Int) (j : Nat) (v : Int), (∀ x ∈ l, -1 ≤ x ∧ x < n ∨ x = 0) → (-1 ≤ v ∧ v < n) → ∀ x ∈ l.set j v, -1 ≤ x ∧ x < n ∨ x = 0 := fun l j v hl hv x hx => by
      rcases List.mem_or_eq_of_mem_set hx with hx | rfl
      · exact hl x hx
      · exact .inl hv
    have h1 := hset out i (-1) h ⟨by omega, by omega⟩
    rw [pairsF]
    split
    · refine pairsF_bd ds n m (i + 1) _ _ (by omega) (fun p hp => ?_) h1
      rw [List.mem_append, List.mem_singleton] at hp
      rcases hp with hp | rfl
      · have := ho p hp; omega
      · omega
    · split
      · exact pairsF_bd ds n m (i + 1) [] _ (by omega) (fun p hp => by simp at hp) h1
      · split
        · next hc =>
          have hmem : opn.getD (opn.length - 1) 0 ∈ opn := by
            rw [List.getD_eq_getElem?_getD, List.getElem?_eq_getElem (by omega)]; exact List.getElem_mem _
          have := ho _ hmem
          exact pairsF_bd ds n m (i + 1) _ _ (by omega) (fun p hp => by have := ho p (List.mem_of_mem_take hp); omega) (hset _ _ _ (hset _ _ _ h1 ⟨by omega, by omega⟩) ⟨by omega, by omega⟩)
        · exact pairsF_bd ds n m (i + 1) opn _ (by omega) (fun p hp => by have := ho p hp; omega) h1
theorem pairsI_bd (ds : List Int) (j : Nat) : -1 ≤ ith (pairsI ds) j ∧ ith (pairsI ds) j ≤ ds.length := by
  have h := pairsF_bd ds ds.length ds.length 0 [] (List.replicate ds.length 0) (by omega) (fun p hp => by simp at hp) (fun x hx => .inr (List.eq_of_mem_replicate hx))
  unfold ith
  rw [List.getD_eq_getElem?_getD]
  cases hx : (pairsI ds)[j]? with
  | none => simp
  | some x =>
    have := h x (List.mem_of_getElem? hx)
    simp only [Option.getD_some]
    omega
end Go.Proofs.Ytbhhebheclfdlaa
