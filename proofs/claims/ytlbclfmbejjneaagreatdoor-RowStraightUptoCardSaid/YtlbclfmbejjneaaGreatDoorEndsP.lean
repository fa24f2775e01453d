/- Plain facts on the ends of clusters. No conditions. -/
import Derived.Test.YtlbclfmbejjneaaGreatDoorBrkA
import Derived.Maps.AppendAt
namespace Go.Proofs.YtlbclfmbejjneaaGreatDoor
set_option linter.unusedVariables false
set_option linter.unusedSimpArgs false
open Go.RowKit Go.Proofs Go.Shelf
attribute [local go_sem] Oper.semAt_some

/-- the ends of pieces -/
def endsF (xs : List (Nat × ByteArray)) : List Int := xs.map fun p => ((p.1 + p.2.size : Nat) : Int)
theorem piecesF_len (s : ByteArray) : ∀ (f a : Nat), (piecesF s f a).length ≤ f
  | 0, a => Nat.le_refl _
  | f + 1, a => by
    rw [piecesF]
    split
    · rw [List.length_cons]; exact Nat.succ_le_succ (piecesF_len s f _)
    · exact Nat.zero_le _
theorem pieces_len (s : ByteArray) : (piecesI s).length ≤ s.size := piecesF_len s s.size 0
theorem kpB_put {w : World} {Bn n₀ : Nat} (hn : n₀ ≤ w.heap.size) (W : World) (l : Nat) (o o' : Obj) (hl : w.heap.size ≤ l) (h : W.heap[l]? = some o) (hc : o.isCells = false) (hw : o.isWalk = false) : KpB Bn n₀ W (W.putObj l o') :=
  ⟨belowK_b hn W l o o' hl h hc hw, fun v hv => cell_kept hv (grownBy_putObj' W l o') (fun r e => by cases e; exact ⟨o, h, hc⟩)⟩
theorem Tryz.info_int8 : (Tryz.prog.info? 3).map (fun i => (i.zero, i.size, i.bytes)) = some (some (.int .i64 0), 1, 8) := by kernel_rfl
end Go.Proofs.YtlbclfmbejjneaaGreatDoor
