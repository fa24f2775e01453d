/- wrap.Rows as a plain function, and plain facts on its rows. No program is in sight. -/
import Derived.Test.YtlbclfmbejjneaaGreatDoorRowS
namespace Go.Proofs.YtlbclfmbejjneaaGreatDoor
set_option linter.unusedVariables false
set_option linter.unusedSimpArgs false

/-- the level of a line -/
def levelI (T : ByteArray) (want : Int) (raw : Bool) : Int := if raw = true then 0 else ((visualI (runesI T) want).2 : Int)
def rulI (line : ByteArray) (w tab : Int) (wideA raw : Bool) : Rul := ⟨whereI line, w, tab, wideA, raw⟩
def mkRow (lev : Int) (x : Nat × Nat × Int × Int) : RowV := ⟨x.1, x.2.1, lev, x.2.2.1, x.2.2.2⟩
/-- wrap.Rows -/
def rowsI (line : ByteArray) (w tab want : Int) (wideA raw : Bool) : List RowV :=
  if w < 1 ∨ 1024 < w ∨ 65536 < line.size then []
  else (rowsFrom (rulI line w tab wideA raw) (textOf line) (countI line).isSome ((textOf line).size + 1) 0 0).map (mkRow (levelI (textOf line) want raw))
theorem ith_map_nat (l : List Nat) (i : Nat) (h : i < l.length) : ith (l.map (fun x : Nat => (x : Int))) i = ((l[i]'h : Nat) : Int) := by
  unfold ith
  rw [List.getD_eq_getElem?_getD, List.getElem?_map, List.getElem?_eq_getElem h]
  rfl
theorem ats_rows (lev : Int) (l : List (Nat × Nat × Int × Int)) : atsOf (l.map (mkRow lev)) = (l.map (fun x => x.1)).map (fun x : Nat => (x : Int)) := by
  unfold atsOf
  rw [List.map_map, List.map_map]
  rfl
/-- the rows of a line begin at 0 and rise -/
theorem rows_up (line : ByteArray) (w tab want : Int) (wideA raw : Bool) (h : rowsI line w tab want wideA raw ≠ []) :
    ith (atsOf (rowsI line w tab want wideA raw)) 0 = 0 ∧ ∀ i j : Nat, i < j → j < (atsOf (rowsI line w tab want wideA raw)).length → ith (atsOf (rowsI line w tab want wideA raw)) i < ith (atsOf (rowsI line w tab want wideA raw)) j := by
  unfold rowsI at h ⊢
  by_cases hc : w < 1 ∨ 1024 < w ∨ 65536 < line.size
  · rw [if_pos hc] at h; exact absurd rfl h
  rw [if_neg hc] at h ⊢
  obtain ⟨h1, h2, h3⟩ := rowsF_up (rulI line w tab wideA raw) (textOf line) (countI line).isSome ((textOf line).size + 1) 0 0 (Bord.zero _) (Nat.succ_pos _)
  rw [ats_rows]
  generalize (rowsFrom (rulI line w tab wideA raw) (textOf line) (countI line).isSome ((textOf line).size + 1) 0 0).map (fun x => x.1) = L at h1 h2 h3
  constructor
  · cases L with
    | nil => exact absurd rfl h1
    | cons x t =>
      have : x = 0 := by simpa using h2
      subst this
      rfl
  · intro i j hij hj
    rw [List.length_map] at hj
    rw [ith_map_nat L i (by omega), ith_map_nat L j hj]
    have := List.pairwise_iff_getElem.1 h3 i j (by omega) hj hij
    omega
/-- rows that rise from a place a on: as many as the bytes they take, at least -/
theorem rowsF_len (r : Rul) (T : ByteArray) (e : Bool) : ∀ (f a n : Nat), Bord T a n → (rowsFrom r T e f a n).length + a ≤ T.size + 1
  | 0, a, n, h => by have := h.1; simp [rowsFrom]; omega
  | f + 1, a, n, h => by
    obtain ⟨b, _, h1, _⟩ := rowI_bord r T e a n h
    rw [rowsFrom, List.length_cons]
    split
    · rename_i hc
      have := h1 hc
      have := rowsF_len r T e f _ _ b
      omega
    · have := h.1
      simp; omega
theorem rows_len (line : ByteArray) (w tab want : Int) (wideA raw : Bool) : (rowsI line w tab want wideA raw).length ≤ 65537 := by
  unfold rowsI
  split
  · simp
  · have h1 := rowsF_len (rulI line w tab wideA raw) (textOf line) (countI line).isSome ((textOf line).size + 1) 0 0 (Bord.zero _)
    have h2 := (textOf_pieces line).1
    rw [List.length_map]
    omega
end Go.Proofs.YtlbclfmbejjneaaGreatDoor
