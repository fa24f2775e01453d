/- Small plain lemmas for the walks: endings, worlds, lists of integers. No conditions. -/
import Derived.WalkKit
import Derived.WalkSpells
import Derived.WalkLawsBesides
import Derived.Lib.Hide
namespace Go.Proofs.Ytbhhebheclfdlaa
open Go.RowKit

/-- the i-th number of a list -/
def ith (l : List Int) (i : Nat) : Int := l.getD i 0

theorem ret_i {k : IntKind} {a b : Int} (h : a = b) : Ending.returned (.int k a) = .returned (.int k b) := by rw [h]
theorem ret_b {a b : Bool} (h : a = b) : Ending.returned (.bool a) = .returned (.bool b) := by rw [h]
theorem ret_ii {k k' : IntKind} {a b c d : Int} (h : a = b) (h' : c = d) : Ending.returned (.tuple #[.int k a, .int k' c]) = .returned (.tuple #[.int k b, .int k' d]) := by rw [h, h']
theorem ret_ibb {k : IntKind} {a b : Int} {c d x y : Bool} (h : a = b) (h' : c = d) (h'' : x = y) :
    Ending.returned (.tuple #[.int k a, .bool c, .bool x]) = .returned (.tuple #[.int k b, .bool d, .bool y]) := by rw [h, h', h'']

/-- All old cells and marks read as before. -/
theorem bcell {W w1 : World} (hb : Below W.heap.size W w1) :
    (∀ b o, b < W.heap.size → w1.cell? ⟨b, o, none⟩ = W.cell? ⟨b, o, none⟩) ∧ (∀ b o, b < W.heap.size → w1.frozen? ⟨b, o, none⟩ = W.frozen? ⟨b, o, none⟩) :=
  ⟨fun b o h => hb.cell (p := ⟨b, o, none⟩) h, fun b o h => hb.frozen (p := ⟨b, o, none⟩) h⟩
theorem bl_drewN {B : Nat} {a w : World} (h : Below B a w) (n : Nat) : Below B a (w.drewN n) := h.trans ⟨rfl, rfl, rfl, Nat.le_refl _, fun _ _ => rfl⟩
theorem cell_lt {w : World} {b o : Nat} {v : Value} (h : w.cell? ⟨b, o, none⟩ = some v) : b < w.heap.size := World.block_lt_of_cell? w ⟨b, o, none⟩ h
theorem cell_bl {B : Nat} {w w' : World} (h : Below B w w') {b o : Nat} {v : Value} (hB : b < B) (hc : w.cell? ⟨b, o, none⟩ = some v) : w'.cell? ⟨b, o, none⟩ = some v :=
  (h.cell (p := ⟨b, o, none⟩) hB).trans hc

/-- A list of integers that a slice reads as: empty, or at a block's place. -/
def Rd (k : IntKind) (w : World) (a : Option Addr) (xs : List Int) : Prop :=
  xs = [] ∨ ∃ b off, a = some ⟨b, off, none⟩ ∧ b < w.heap.size ∧ ∀ i, i < xs.length → w.cell? ⟨b, off + i, none⟩ = some (.int k (ith xs i))

theorem Rd.below {k : IntKind} {w w' : World} {a : Option Addr} {xs : List Int} (h : Rd k w a xs) (hb : Below w.heap.size w w') : Rd k w' a xs := by
  rcases h with h | ⟨b, off, h1, h2, h3⟩
  · exact .inl h
  · exact .inr ⟨b, off, h1, Nat.lt_of_lt_of_le h2 hb.size, fun i hi => cell_bl hb h2 (h3 i hi)⟩
theorem Rd.at {k : IntKind} {w wr : World} {a : Option Addr} {xs : List Int} (h : Rd k w a xs) (hb : Below w.heap.size w wr) (i : Nat) (hi : i < xs.length) :
    ∃ b off, a = some ⟨b, off, none⟩ ∧ b < w.heap.size ∧ wr.cell? ⟨b, off + i, none⟩ = some (.int k (ith xs i)) := by
  rcases h with h | ⟨b, off, h1, h2, h3⟩
  · subst h; simp at hi
  · exact ⟨b, off, h1, h2, cell_bl hb h2 (h3 i hi)⟩
theorem cell_set {w : World} {a : Addr} {v : Value} (h : w.cell? a = some v) (u : Value) : (w.setCell a u).cell? a = some u := World.cell?_setCell_same' w a u (by rw [h]; rfl)
theorem frozen_set {w : World} {a : Addr} {b : Bool} (h : w.frozen? a = b) (u : Value) : (w.setCell a u).frozen? a = b := by rw [World.frozen?_setCell]; exact h
end Go.Proofs.Ytbhhebheclfdlaa
