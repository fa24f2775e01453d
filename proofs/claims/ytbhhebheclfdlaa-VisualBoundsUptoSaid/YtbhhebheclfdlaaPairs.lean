/- Rows of pairs: cells, slices that read as a list of pairs. No program's step is in sight. -/
import Derived.Test.YtbhhebheclfdlaaProg
import Derived.Test.YtbhhebheclfdlaaSpec09
import Derived.Test.YtbhhebheclfdlaaStack
import Derived.Deep.AppendLies
import Derived.Deep.OwnRows
namespace Go.Proofs.Ytbhhebheclfdlaa
set_option linter.unusedVariables false
set_option linter.unusedSimpArgs false
open Go.RowKit

def pcell (x : Nat × Nat) : List Value := [.int .i64 x.1, .int .i64 x.2]
theorem flat_len2 {α : Type} (l : List α) (f : α → List Value) (hf : ∀ x, (f x).length = 2) : (l.flatMap f).length = l.length * 2 := by
  induction l with
  | nil => rfl
  | cons x l ih => rw [List.flatMap_cons, List.length_append, hf, ih, List.length_cons]; omega
theorem flat_get2 {α : Type} (l : List α) (d : α) (f : α → List Value) (g h : α → Value) (hf : ∀ x, f x = [g x, h x]) (i : Nat) (hi : i < l.length) :
    (l.flatMap f)[i * 2]? = some (g (l.getD i d)) ∧ (l.flatMap f)[i * 2 + 1]? = some (h (l.getD i d)) := by
  induction l generalizing i with
  | nil => simp at hi
  | cons x l ih =>
    rw [List.flatMap_cons, hf x]
    cases i with
    | zero => exact ⟨rfl, rfl⟩
    | succ i =>
      have := ih i (by simpa using hi)
      rw [show (i + 1) * 2 = i * 2 + 1 + 1 by omega]
      exact this
def ocell (x : Nat × Int) : List Value := [.int .i64 x.1, .int .i32 x.2]
theorem ownsRow_base {w : World} {base base' e size n : Nat} {v : Value} {xs : List Value} (h : w.ownsRow base e size v n xs) (hb : base' ≤ base) : w.ownsRow base' e size v n xs := by
  obtain ⟨h1, h2⟩ := h
  refine ⟨h1, ?_⟩
  rcases h2 with h2 | ⟨g, cap, cur, a, b, c⟩
  · exact .inl h2
  · exact .inr ⟨g, cap, cur, a, Nat.le_trans hb b, c⟩
theorem Try.info_open : (Try.prog.info? 112).map (fun i => (i.zero, i.size, i.bytes)) = some (some (.agg #[.int .i64 0, .int .i32 0]), 2, 16) := by kernel_rfl
theorem Try.info_two : (Try.prog.info? 102).map (fun i => (i.zero, i.size, i.bytes)) = some (some (.agg #[.int .i64 0, .int .i64 0]), 2, 16) := by kernel_rfl
theorem ownsRow_drewN {w : World} {base e size n : Nat} {v : Value} {xs : List Value} (h : w.ownsRow base e size v n xs) (q : Nat) : (w.drewN q).ownsRow base e size v n xs := h

theorem flat_take2 {α : Type} (l : List α) (f : α → List Value) (hf : ∀ x, (f x).length = 2) (m : Nat) : (l.take m).flatMap f = (l.flatMap f).take (m * 2) := by
  induction l generalizing m with
  | nil => simp
  | cons x l ih =>
    cases m with
    | zero => simp
    | succ m =>
      have h2 : (f x).length = 2 := hf x
      rw [List.take_succ_cons, List.flatMap_cons, List.flatMap_cons, ih, List.take_append, h2, List.take_of_length_le (l := f x) (by omega), show (m + 1) * 2 - 2 = m * 2 by omega]
/-- A slice of pairs that a call has made reads as l. -/
def PairsAt (w : World) (base : Nat) (pa : Option Addr) (cap : Nat) (l : List (Nat × Nat)) : Prop := w.ownsRow base 102 2 (.slice pa l.length cap) l.length (l.flatMap pcell)
theorem PairsAt.of {base : Nat} {w : World} {v : Value} {l : List (Nat × Nat)} (h : w.ownsRow base 102 2 v l.length (l.flatMap pcell)) : ∃ pa cap, v = .slice pa l.length cap ∧ PairsAt w base pa cap l := by
  rcases h.2 with ⟨h1, h0⟩ | ⟨g, cap, cur, h1, _⟩
  · exact ⟨none, 0, by rw [h1, h0], by unfold PairsAt; rw [h0, ← h1]; rw [h0] at h; exact h⟩
  · exact ⟨_, cap, h1, by unfold PairsAt; rw [← h1]; exact h⟩
theorem PairsAt.at {base cap : Nat} {w : World} {pa : Option Addr} {l : List (Nat × Nat)} (h : PairsAt w base pa cap l) (i : Nat) (hi : i < l.length) :
    ∃ G, pa = some ⟨G, 0, none⟩ ∧ base ≤ G ∧ G < w.heap.size ∧ w.cell? ⟨G, i * 2, none⟩ = some (.int .i64 (l.getD i (0, 0)).1) ∧ w.cell? ⟨G, i * 2 + 1, none⟩ = some (.int .i64 (l.getD i (0, 0)).2) := by
  have hg := flat_get2 l (0, 0) pcell _ _ (fun _ => rfl) i hi
  have h' := h
  obtain ⟨_, h2⟩ := h
  rcases h2 with ⟨h1, h0⟩ | ⟨g, cap', cur, h1, hb, hh, hc, hm, hs, ht⟩
  · omega
  · cases h1
    refine ⟨g, rfl, hb, (Array.getElem?_eq_some_iff.1 hh).1, ?_, ?_⟩
    · rw [World.ownsRow.cellAt h' (i * 2) (by omega)]; exact hg.1
    · rw [World.ownsRow.cellAt h' (i * 2 + 1) (by omega)]; exact hg.2
theorem PairsAt.keep {base cap : Nat} {w w' : World} {pa : Option Addr} {l : List (Nat × Nat)} (h : PairsAt w base pa cap l) (hb : Below w.heap.size w w') : PairsAt w' base pa cap l :=
  World.ownsRow.kept h (row := none) ⟨hb.os, hb.tape, hb.output, hb.size, fun q hq _ => hb.block q hq⟩ (by cases (Value.slice pa l.length cap).ownBlock <;> simp)
theorem PairsAt.set {base cap : Nat} {w : World} {pa : Option Addr} {l : List (Nat × Nat)} (h : PairsAt w base pa cap l) {a : Addr} (ha : a.block < base) (v : Value) : PairsAt (w.setCell a v) base pa cap l :=
  ownsRow_setCell_below h ha v
theorem ownsRow_keep {w w' : World} {base e size n : Nat} {v : Value} {xs : List Value} (h : w.ownsRow base e size v n xs) (hb : Below w.heap.size w w') : w'.ownsRow base e size v n xs :=
  h.kept (row := none) ⟨hb.os, hb.tape, hb.output, hb.size, fun q hq _ => hb.block q hq⟩ (by cases v.ownBlock <;> simp)
theorem own_slice {w : World} {base e size n : Nat} {v : Value} {xs : List Value} (h : w.ownsRow base e size v n xs) : ∃ a cap, v = .slice a n cap ∧ n ≤ cap ∧ cap ≤ maxLen := by
  rcases h.2 with ⟨h1, h0⟩ | ⟨g, cap, cur, h1, hb, hh, hc, hm, hs, ht⟩
  · exact ⟨none, 0, by rw [h1, h0], by omega, by unfold maxLen; omega⟩
  · exact ⟨_, cap, h1, hc, hm⟩
theorem own_cells {w : World} {base e size n cap : Nat} {a : Option Addr} {xs : List Value} (h : w.ownsRow base e size (.slice a n cap) n xs) (hn : 0 < n) :
    ∃ G, a = some ⟨G, 0, none⟩ ∧ base ≤ G ∧ G < w.heap.size ∧ ∀ j, j < n * size → w.cell? ⟨G, j, none⟩ = xs[j]? := by
  have h' := h
  rcases h.2 with ⟨h1, h0⟩ | ⟨g, cap', cur, h1, hb, hh, hc, hm, hs, ht⟩
  · omega
  · simp only [Value.slice.injEq] at h1
    obtain ⟨rfl, _, rfl⟩ := h1
    exact ⟨g, rfl, hb, (Array.getElem?_eq_some_iff.1 hh).1, fun j hj => World.ownsRow.cellAt h' j hj⟩
theorem out_of_row {w : World} {base b t n : Nat} {k : IntKind} {xs : List Int} (h : w.rowIs b t n (fun i => .int k (ith xs i))) (hl : xs.length = n) (hb : base ≤ b) (hn : n ≤ maxLen) : OutAt k t w base (some ⟨b, 0, none⟩) n xs := by
  obtain ⟨c, hg, hs, hc⟩ := h
  subst hl
  refine ⟨by simp, .inr ⟨b, xs.length, c, rfl, hb, hg, Nat.le_refl _, hn, by omega, ?_⟩⟩
  apply List.ext_getElem?
  intro i
  rw [List.getElem?_take, List.getElem?_map]
  by_cases hi : i < xs.length
  · rw [if_pos (by omega), ith_get hi]
    simpa using hc i hi
  · rw [if_neg (by omega), List.getElem?_eq_none (by omega)]; rfl
/-- the head of a row is a row -/
theorem ownsRow_take {w : World} {base e size n cap k : Nat} {a : Option Addr} {xs : List Value} (h : w.ownsRow base e size (.slice a n cap) n xs) (hk : k ≤ n) (hp : 0 < n) (hx : xs.length = n * size) :
    w.ownsRow base e size (.slice a k cap) k (xs.take (k * size)) := by
  have hkn : k * size ≤ n * size := Nat.mul_le_mul_right _ hk
  obtain ⟨h1, h2⟩ := h
  refine ⟨by rw [List.length_take]; omega, ?_⟩
  rcases h2 with ⟨h2, h0⟩ | ⟨g, cap', cur, h2, hb, hg, hc, hm, hs, ht⟩
  · cases h2; omega
  · cases h2
    refine .inr ⟨g, cap, cur, rfl, hb, hg, by omega, hm, hs, ?_⟩
    rw [← ht, List.take_take, Nat.min_eq_left hkn]
end Go.Proofs.Ytbhhebheclfdlaa
