/- Rows of rows: a slice of slices of places, each in a row of its own. No program's step is in sight. -/
import Derived.Test.YtbhhebheclfdlaaPairs
namespace Go.Proofs.Ytbhhebheclfdlaa
set_option linter.unusedVariables false
set_option linter.unusedSimpArgs false
open Go.RowKit

def nats (l : List Nat) : List Value := l.map fun (p : Nat) => Value.int .i64 (p : Int)
theorem nats_snoc (l : List Nat) (i : Nat) : nats (l ++ [i]) = nats l ++ [.int .i64 (i : Int)] := by unfold nats; rw [List.map_append]; rfl
theorem nats_len (l : List Nat) : (nats l).length = l.length := by unfold nats; simp
theorem nats_get (l : List Nat) (i : Nat) (h : i < l.length) : (nats l)[i]? = some (.int .i64 ((l.getD i 0 : Nat) : Int)) := by
  unfold nats
  rw [List.getElem?_map, List.getD_eq_getElem?_getD, List.getElem?_eq_getElem h]
  rfl

/-- A slice of slices of places: its own row, and each element's, all apart. -/
def NestAt (w : World) (base ts ti : Nat) (v : Value) (out : List (List Nat)) : Prop :=
  ∃ ss : List Value, w.ownsRow base ts 1 v out.length ss ∧
    (∀ k, k < out.length → w.ownsRow base ti 1 (ss.getD k undef) (out.getD k []).length (nats (out.getD k []))) ∧
    (∀ k g, k < out.length → (ss.getD k undef).ownBlock = some g → v.ownBlock ≠ some g ∧ ∀ j, j < out.length → j ≠ k → (ss.getD j undef).ownBlock ≠ some g)

theorem NestAt.nil (w : World) (base ts ti : Nat) : NestAt w base ts ti (.slice none 0 0) [] :=
  ⟨[], World.ownsRow_nil _ _ _ _, fun k hk => absurd hk (by simp), fun k g hk => absurd hk (by simp)⟩
theorem NestAt.keep {w w' : World} {base ts ti : Nat} {v : Value} {out : List (List Nat)} (h : NestAt w base ts ti v out) (hb : Below w.heap.size w w') : NestAt w' base ts ti v out := by
  obtain ⟨ss, h1, h2, h3⟩ := h
  exact ⟨ss, ownsRow_keep h1 hb, fun k hk => ownsRow_keep (h2 k hk) hb, h3⟩
theorem ownsRow_ne {w : World} {base e size n : Nat} {v : Value} {xs : List Value} (h : w.ownsRow base e size v n xs) {w' : World} {row : Option Nat} (hg : w.grownBy w' row) (hne : ∀ g, v.ownBlock = some g → row ≠ some g) : w'.ownsRow base e size v n xs := by
  refine h.kept hg ?_
  cases hv : v.ownBlock with
  | none => exact .inl rfl
  | some g => exact .inr fun e => hne g hv e.symm
theorem NestAt.far {w w' : World} {base ts ti : Nat} {v : Value} {out : List (List Nat)} (h : NestAt w base ts ti v out) {row : Option Nat} (hg : w.grownBy w' row) (hr : ∀ g, row = some g → g < base) : NestAt w' base ts ti v out := by
  obtain ⟨ss, h1, h2, h3⟩ := h
  have key : ∀ g, base ≤ g → row ≠ some g := fun g hb e => by have := hr g e; omega
  exact ⟨ss, ownsRow_ne h1 hg fun g hv => key g (h1.lt g hv).1, fun k hk => ownsRow_ne (h2 k hk) hg fun g hv => key g ((h2 k hk).lt g hv).1, h3⟩
theorem NestAt.shape {w : World} {base ts ti : Nat} {v : Value} {out : List (List Nat)} (h : NestAt w base ts ti v out) : ∃ a cap, v = .slice a out.length cap ∧ out.length ≤ cap ∧ cap ≤ maxLen := by
  obtain ⟨ss, h1, _⟩ := h
  exact own_slice h1
/-- behind 'append(out, nil)' -/
theorem NestAt.grown {w w1 w' : World} {base ts ti : Nat} {v v' : Value} {out : List (List Nat)} {ss : List Value}
    (h2 : ∀ k, k < out.length → w.ownsRow base ti 1 (ss.getD k undef) (out.getD k []).length (nats (out.getD k [])))
    (h3 : ∀ k g, k < out.length → (ss.getD k undef).ownBlock = some g → v.ownBlock ≠ some g ∧ ∀ j, j < out.length → j ≠ k → (ss.getD j undef).ownBlock ≠ some g)
    (hl : ss.length = out.length) (hg : w.grownBy w' v.ownBlock) (hown : w'.ownsRow base ts 1 v' (out.length + 1) (ss ++ [.slice none 0 0]))
    (hloc : v'.ownBlock = v.ownBlock ∨ ∃ H, v'.ownBlock = some H ∧ w.heap.size ≤ H) : NestAt w' base ts ti v' (out ++ [[]]) := by
  have e1 : ∀ k, k < out.length → (ss ++ [Value.slice none 0 0]).getD k undef = ss.getD k undef := fun k hk => by
    rw [List.getD_eq_getElem?_getD, List.getElem?_append_left (by omega), ← List.getD_eq_getElem?_getD]
  have e2 : ∀ k, k < out.length → (out ++ [[]]).getD k [] = out.getD k [] := fun k hk => by
    rw [List.getD_eq_getElem?_getD, List.getElem?_append_left (by omega), ← List.getD_eq_getElem?_getD]
  have e3 : (ss ++ [Value.slice none 0 0]).getD out.length undef = .slice none 0 0 := by
    rw [List.getD_eq_getElem?_getD, ← hl, List.getElem?_append_right (Nat.le_refl _), Nat.sub_self]; rfl
  have e4 : (out ++ [[]]).getD out.length [] = [] := by
    rw [List.getD_eq_getElem?_getD, List.getElem?_append_right (Nat.le_refl _), Nat.sub_self]; rfl
  have hlen : (out ++ [[]]).length = out.length + 1 := by simp
  refine ⟨ss ++ [.slice none 0 0], by rw [hlen]; exact hown, fun k hk => ?_, fun k g hk hb => ?_⟩
  · rw [hlen] at hk
    rcases Nat.lt_or_ge k out.length with h | h
    · rw [e1 k h, e2 k h]
      exact ownsRow_ne (h2 k h) hg fun g hv => (h3 k g h hv).1
    · obtain rfl : k = out.length := by omega
      rw [e3, e4]
      exact World.ownsRow_nil _ _ _ _
  · rw [hlen] at hk
    rcases Nat.lt_or_ge k out.length with h | h
    · rw [e1 k h] at hb
      obtain ⟨n1, n2⟩ := h3 k g h hb
      have hlt := ((h2 k h).lt g hb).2
      refine ⟨?_, fun j hj hne => ?_⟩
      · rcases hloc with hloc | ⟨H, hH, hHs⟩
        · rw [hloc]; exact n1
        · rw [hH]; intro e; cases e; omega
      · rw [hlen] at hj
        rcases Nat.lt_or_ge j out.length with h' | h'
        · rw [e1 j h']; exact n2 j h' hne
        · obtain rfl : j = out.length := by omega
          rw [e3]; simp [Value.ownBlock]
    · obtain rfl : k = out.length := by omega
      rw [e3] at hb; simp [Value.ownBlock] at hb
/-- An element: where it lies, what it reads as, and the way back behind an append to it and a store. -/
theorem NestAt.elem {w : World} {base ts ti : Nat} {v : Value} {out : List (List Nat)} (h : NestAt w base ts ti v out) (k : Nat) (hk : k < out.length) :
    ∃ G cap s, v = .slice (some ⟨G, 0, none⟩) out.length cap ∧ base ≤ G ∧ G < w.heap.size ∧ w.cell? ⟨G, k, none⟩ = some s ∧ w.frozen? ⟨G, k, none⟩ = false ∧ cap ≤ maxLen ∧
      w.ownsRow base ti 1 s (out.getD k []).length (nats (out.getD k [])) ∧ s.ownBlock ≠ some G ∧
      ∀ w' s' r, w'.ownsRow base ti 1 s' r.length (nats r) → w.grownBy w' s.ownBlock → (s'.ownBlock = s.ownBlock ∨ ∃ H, s'.ownBlock = some H ∧ w.heap.size ≤ H) →
        NestAt (w'.setCell ⟨G, k, none⟩ s') base ts ti v (out.set k r) := by
  obtain ⟨ss, h1, h2, h3⟩ := h
  obtain ⟨a, cap, rfl, hc1, hc2⟩ := own_slice h1
  obtain ⟨G, rfl, hG1, hG2, hcells⟩ := own_cells h1 (by omega)
  have hsl : ss.length = out.length := by have := h1.1; omega
  have hck := hcells k (by omega)
  have hs : ss[k]? = some (ss.getD k undef) := by rw [List.getD_eq_getElem?_getD, List.getElem?_eq_getElem (by omega)]; rfl
  rw [hs] at hck
  have hfr : w.frozen? ⟨G, k, none⟩ = false := by
    rcases h1.2 with ⟨h', _⟩ | ⟨g, cap', cur, h', _, hg, _⟩
    · cases h'
    · cases h'; simp [World.frozen?, hg]
  have hns : (ss.getD k undef).ownBlock ≠ some G := fun e => (h3 k G hk e).1 rfl
  refine ⟨G, cap, ss.getD k undef, rfl, hG1, hG2, hck, hfr, hc2, h2 k hk, hns, fun w' s' r hr hg hloc => ?_⟩
  have h1' : w'.ownsRow base ts 1 (.slice (some ⟨G, 0, none⟩) out.length cap) out.length ss := ownsRow_ne h1 hg fun g hv => by
    simp only [Value.ownBlock, Option.some.injEq] at hv; subst hv; exact hns
  have hst := World.ownsRow.stored h1' k s'
  have gd : ∀ j, j < out.length → (ss.set k s').getD j undef = if k = j then s' else ss.getD j undef := fun j hj => by
    rw [List.getD_eq_getElem?_getD, List.getElem?_set, List.getD_eq_getElem?_getD]
    by_cases e : k = j
    · subst e; rw [if_pos rfl, if_pos (by omega), if_pos rfl]; rfl
    · rw [if_neg e, if_neg e]
  have go : ∀ j, j < out.length → (out.set k r).getD j [] = if k = j then r else out.getD j [] := fun j hj => by
    rw [List.getD_eq_getElem?_getD, List.getElem?_set, List.getD_eq_getElem?_getD]
    by_cases e : k = j
    · subst e; rw [if_pos rfl, if_pos (by omega), if_pos rfl]; rfl
    · rw [if_neg e, if_neg e]
  have hsG : s'.ownBlock ≠ some G := by
    rcases hloc with e | ⟨H, e, hH⟩
    · rw [e]; exact hns
    · rw [e]; intro e'; cases e'; omega
  refine ⟨ss.set k s', by rw [List.length_set]; exact hst.1, fun j hj => ?_, fun j g hj hb => ?_⟩
  · rw [List.length_set] at hj
    rw [gd j hj, go j hj]
    by_cases e : k = j
    · rw [if_pos e, if_pos e]
      exact ownsRow_ne hr hst.2 fun g hv e' => hsG (hv.trans e'.symm)
    · rw [if_neg e, if_neg e]
      refine ownsRow_ne (ownsRow_ne (h2 j hj) hg fun g hv e' => ?_) hst.2 fun g hv e' => (h3 j g hj hv).1 e'
      exact (h3 k g hk e').2 j hj (fun e'' => e e''.symm) hv
  · rw [List.length_set] at hj
    rw [gd j hj] at hb
    by_cases e : k = j
    · subst e
      rw [if_pos rfl] at hb
      refine ⟨fun e' => hsG (hb.trans e'.symm), fun i hi hne => ?_⟩
      rw [List.length_set] at hi
      rw [gd i hi, if_neg (fun e => hne e.symm)]
      rcases hloc with e' | ⟨H, e', hH⟩
      · exact (h3 k g hk (e'.symm.trans hb)).2 i hi hne
      · rw [e'] at hb; cases hb
        intro e''
        have := ((h2 i hi).lt g e'').2
        omega
    · rw [if_neg e] at hb
      have h3' := h3 j g hj hb
      refine ⟨h3'.1, fun i hi hne => ?_⟩
      rw [List.length_set] at hi
      rw [gd i hi]
      by_cases e' : k = i
      · rw [if_pos e']
        subst e'
        rcases hloc with e'' | ⟨H, e'', hH⟩
        · rw [e'']; exact h3'.2 k hk hne
        · rw [e'']; intro e3; cases e3
          have := ((h2 j hj).lt g hb).2
          omega
      · rw [if_neg e']; exact h3'.2 i hi hne
end Go.Proofs.Ytbhhebheclfdlaa
