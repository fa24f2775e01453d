/- A row of blocks that a call has laid: what they hold, over stores and growth. No conditions. -/
import Derived.Test.YtlbclfmbejjneaaGreatDoorWhereB
namespace Go.Proofs.YtlbclfmbejjneaaGreatDoor
set_option linter.unusedVariables false
set_option linter.unusedSimpArgs false
open Go.RowKit Go.Proofs Go.Shelf

/-- the blocks from n on, m of them, hold C -/
def Blk (W : World) (n m : Nat) (C : Nat → Array Value) (T : Nat → Nat) : Prop := ∀ j, j < m → W.heap[n + j]? = some (.cells (C j) (T j) (0, 0))
theorem Blk.set {W : World} {n m : Nat} {C : Nat → Array Value} {T : Nat → Nat} (h : Blk W n m C T) (k i : Nat) (v : Value) {C' : Nat → Array Value} (hC : ∀ j, j < m → C' j = if j = k then (C j).setIfInBounds i v else C j) :
    Blk (W.setCell ⟨n + k, i, none⟩ v) n m C' T := fun j hj => by
  rw [hC j hj]
  by_cases e : j = k
  · subst e; rw [if_pos rfl]; exact set_at (h j hj) v
  · rw [if_neg e]; exact box_other (h j hj) (by omega)
theorem Blk.congr {W : World} {n m : Nat} {C C' : Nat → Array Value} {T : Nat → Nat} (h : Blk W n m C T) (hC : ∀ j, j < m → C' j = C j) : Blk W n m C' T := fun j hj => by
  rw [hC j hj]; exact h j hj
theorem Blk.below {W W' : World} {n m : Nat} {C : Nat → Array Value} {T : Nat → Nat} (h : Blk W n m C T) (hb : Below W.heap.size W W') : Blk W' n m C T := fun j hj =>
  Eq.trans (hb.block (n + j) (Array.getElem?_eq_some_iff.1 (h j hj)).1) (h j hj)
theorem Blk.kept {A B : World} {n m : Nat} {C : Nat → Array Value} {T : Nat → Nat} (h : Blk A n m C T) {row : Option Nat} (hg : A.grownBy B row) (hrow : ∀ k, row = some k → ∃ o, A.heap[k]? = some o ∧ o.isCells = false) : Blk B n m C T := fun j hj =>
  (hg.block _ (Array.getElem?_eq_some_iff.1 (h j hj)).1 (fun e => by
    obtain ⟨o, ho, hc⟩ := hrow _ e.symm
    rw [h j hj] at ho; cases ho; cases hc)).trans (h j hj)
theorem Blk.cell {W : World} {n m : Nat} {C : Nat → Array Value} {T : Nat → Nat} (h : Blk W n m C T) (j i : Nat) (hj : j < m) {v : Value} (hv : (C j)[i]? = some v) : W.cell? ⟨n + j, i, none⟩ = some v := by
  simp [World.cell?, h j hj, hv]
theorem Blk.frozen {W : World} {n m : Nat} {C : Nat → Array Value} {T : Nat → Nat} (h : Blk W n m C T) (j i : Nat) (hj : j < m) : W.frozen? ⟨n + j, i, none⟩ = false := by
  simp [World.frozen?, h j hj]
theorem Blk.lt {W : World} {n m : Nat} {C : Nat → Array Value} {T : Nat → Nat} (h : Blk W n m C T) (hm : 0 < m) : n + m ≤ W.heap.size := by
  have := (Array.getElem?_eq_some_iff.1 (h (m - 1) (by omega))).1
  omega
theorem Blk.alloc {W : World} {n m : Nat} {C : Nat → Array Value} {T : Nat → Nat} (h : Blk W n m C T) (o : Obj) : Blk (W.alloc o) n m C T :=
  h.kept (row := none) (World.grownBy_alloc W o none) (fun k e => by cases e)
theorem Blk.push {W : World} {n m : Nat} {C : Nat → Array Value} {T : Nat → Nat} (h : Blk W n m C T) (hs : W.heap.size = n + m) : Blk (W.alloc (.cells (C m) (T m))) n (m + 1) C T := fun j hj => by
  by_cases e : j = m
  · subst e
    have := World.alloc_heap_new W (.cells (C j) (T j))
    rwa [hs] at this
  · exact h.alloc _ j (by omega)
theorem Blk.nil {W : World} {n : Nat} {C : Nat → Array Value} {T : Nat → Nat} : Blk W n 0 C T := fun j hj => by omega
/-- a store above a place keeps what lay below it -/
theorem Below.set_at {B : Nat} {A W : World} (h : Below B A W) (n k i : Nat) (hn : B ≤ n) (v : Value) : Below B A (W.setCell ⟨n + k, i, none⟩ v) := h.setCell (p := ⟨n + k, i, none⟩) (by show B ≤ n + k; omega) v
end Go.Proofs.YtlbclfmbejjneaaGreatDoor
