/- Plain laws of rows for WrapFits. No program is in sight. -/
import Derived.Test.YtphlhnkenehnnaaGreatDoorWrapP
import Derived.Test.YtphlhnkenehnnaaGreatDoorPlainW
namespace Go.Proofs.YtphlhnkenehnnaaGreatDoor
set_option linter.unusedVariables false
set_option linter.unusedSimpArgs false
open Go.RowKit

/-- each row is a row from a border on; it goes on just if another follows -/
theorem rowsF_all (r : Rul) (T : ByteArray) (e : Bool) : ∀ (f a n : Nat), Bord T a n → ∀ i x, (rowsFrom r T e f a n)[i]? = some x →
    ∃ a' n', Bord T a' n' ∧ x = (a', (rowAt1 r T e a' n').1 - a', (rowAt1 r T e a' n').2.2.1, (rowAt1 r T e a' n').2.2.2) ∧ (i + 1 < (rowsFrom r T e f a n).length → (rowAt1 r T e a' n').2.2.2 = 2 ∨ (rowAt1 r T e a' n').2.2.2 = 3)
  | 0, a, n, h, i, x, hx => by simp [rowsFrom] at hx
  | f + 1, a, n, h, i, x, hx => by
    obtain ⟨b, _, _, _⟩ := rowI_bord r T e a n h
    rw [rowsFrom] at hx ⊢
    cases i with
    | zero =>
      rw [List.getElem?_cons_zero] at hx
      refine ⟨a, n, h, (Option.some.inj hx).symm, fun hl => ?_⟩
      by_cases hc : (rowAt1 r T e a n).2.2.2 = 2 ∨ (rowAt1 r T e a n).2.2.2 = 3
      · exact hc
      · rw [if_neg hc] at hl; simp at hl
    | succ i =>
      rw [List.getElem?_cons_succ] at hx
      by_cases hc : (rowAt1 r T e a n).2.2.2 = 2 ∨ (rowAt1 r T e a n).2.2.2 = 3
      · rw [if_pos hc] at hx ⊢
        obtain ⟨a', n', h1, h2, h3⟩ := rowsF_all r T e f _ _ b i x hx
        exact ⟨a', n', h1, h2, fun hl => h3 (by rw [List.length_cons] at hl; omega)⟩
      · rw [if_neg hc] at hx; simp at hx
/-- the columns of the clusters of a piece of text -/
def colsI (tab : Int) (wideA raw : Bool) (t : ByteArray) : Int := wideF tab wideA raw ((piecesI t).map (·.2)) 0
/-- what WrapFits asks of a row -/
theorem fits_row (r : Rul) (hw : 1 ≤ r.w) (T : ByteArray) (e : Bool) (a n : Nat) (h : Bord T a n) :
    ∃ len : Nat, (rowAt1 r T e a n).1 = a + len ∧ a + len ≤ T.size ∧ 0 ≤ (rowAt1 r T e a n).2.2.1 ∧
      ((rowAt1 r T e a n).2.2.1 ≤ colsI r.tab r.wideA r.raw (T.extract a (a + len)) ∧ ((rowAt1 r T e a n).2.2.1 < colsI r.tab r.wideA r.raw (T.extract a (a + len)) → r.w < colsI r.tab r.wideA r.raw (T.extract a (a + len)))) ∧
      ((rowAt1 r T e a n).2.2.2 = 3 → a + len + nextI (T.extract (a + len) T.size) ≤ T.size ∧ r.w < colsI r.tab r.wideA r.raw (T.extract a (a + len + nextI (T.extract (a + len) T.size)))) := by
  obtain ⟨P, R, h1, h2, h3, h4, h5, h6, h7, _, _⟩ := row_law r hw T e a n h
  obtain ⟨b1, b2, b3, _⟩ := rowI_bord r T e a n h
  obtain ⟨c1, c2, c3, c4⟩ := cut_pieces T a n h P R h1
  refine ⟨szs P, h2, c1, h5, ?_, fun h3' => ?_⟩
  · have hc : colsI r.tab r.wideA r.raw (T.extract a (a + szs P)) = wOf r P := by unfold colsI wOf; rw [c3]
    rw [hc]
    rcases h4 with h4 | ⟨h4, h4'⟩
    · exact ⟨by omega, fun h => by omega⟩
    · exact ⟨h4, fun _ => h4'⟩
  · have hlt := (b3 (.inr h3')).2
    rw [h2] at hlt
    obtain ⟨hne, h8⟩ := h7 h3'
    rw [piecesF_cons T (a + szs P) hlt, List.map_cons] at c4
    obtain ⟨x, R', rfl⟩ : ∃ x R', R = x :: R' := by
      cases R with
      | nil => cases c4
      | cons x R' => exact ⟨x, R', rfl⟩
    obtain ⟨hx, _⟩ := List.cons.inj c4
    have hn := nextI_bd (T.extract (a + szs P) T.size) (by rw [ext_size T (a + szs P) (by omega)]; omega)
    rw [ext_size T (a + szs P) (by omega)] at hn
    have hxz : x.size = nextI (T.extract (a + szs P) T.size) := by rw [← hx]; simp [ByteArray.size_extract]; omega
    obtain ⟨d1, _, d3, _⟩ := cut_pieces T a n h (P ++ [x]) R' (by rw [h1]; simp)
    have hsz : szs (P ++ [x]) = szs P + nextI (T.extract (a + szs P) T.size) := by rw [szs_app, ← hxz]; simp [szs]
    rw [hsz, ← Nat.add_assoc] at d1 d3
    refine ⟨d1, ?_⟩
    have hc : colsI r.tab r.wideA r.raw (T.extract a (a + szs P + nextI (T.extract (a + szs P) T.size))) = wOf r (P ++ [x]) := by unfold colsI wOf; rw [d3]
    rw [hc]
    exact h8 x R' rfl
/-- .. of every row of a line -/
theorem fits_rows (line : ByteArray) (wd tab want : Int) (wideA raw : Bool) (X : List RowV) (hX : rowsI line wd tab want wideA raw = X) :
    (X = [] → wd < 1 ∨ 1024 < wd ∨ 65536 < line.size) ∧ X.length ≤ 65537 ∧ ∀ (i : Nat) (v : RowV), X[i]? = some v → line.size ≤ 65536 ∧ ∃ a len : Nat, v.a = a ∧ v.len = len ∧ a + len ≤ (textOf line).size ∧ 0 ≤ v.wide ∧
      (v.wide ≤ colsI tab wideA raw ((textOf line).extract a (a + len)) ∧ (v.wide < colsI tab wideA raw ((textOf line).extract a (a + len)) → wd < colsI tab wideA raw ((textOf line).extract a (a + len)))) ∧
      (v.fin = 3 → a + len + nextI ((textOf line).extract (a + len) (textOf line).size) ≤ (textOf line).size ∧ wd < colsI tab wideA raw ((textOf line).extract a (a + len + nextI ((textOf line).extract (a + len) (textOf line).size)))) := by
  refine ⟨fun h => ?_, hX ▸ rows_len line wd tab want wideA raw, fun i v hv => ?_⟩
  · subst h
    unfold rowsI at hX
    by_cases hc : wd < 1 ∨ 1024 < wd ∨ 65536 < line.size
    · exact hc
    · rw [if_neg hc, rowsFrom, List.map_cons] at hX
      cases hX
  · subst hX
    unfold rowsI at hv
    by_cases hc : wd < 1 ∨ 1024 < wd ∨ 65536 < line.size
    · rw [if_pos hc] at hv; simp at hv
    rw [if_neg hc, List.getElem?_map] at hv
    obtain ⟨x, hx, rfl⟩ := Option.map_eq_some_iff.1 hv
    obtain ⟨a, n, hb, rfl, _⟩ := rowsF_all _ _ _ _ _ _ (Bord.zero _) i x hx
    obtain ⟨len, e1, e2, e3, e4, e5⟩ := fits_row (rulI line wd tab wideA raw) (by show 1 ≤ wd; omega) (textOf line) (countI line).isSome a n hb
    refine ⟨by omega, a, len, rfl, ?_, e2, e3, e4, e5⟩
    show (((rowAt1 _ _ _ a n).1 - a : Nat) : Int) = len
    rw [e1]
    omega
/-- a line that fits as a whole is one row -/
theorem fits_one (line : ByteArray) (wd tab want : Int) (wideA raw : Bool) (X : List RowV) (hX : rowsI line wd tab want wideA raw = X) (hne : X ≠ []) (h : colsI tab wideA raw (textOf line) ≤ wd) : X.length = 1 := by
  subst hX
  unfold rowsI at hne ⊢
  by_cases hc : wd < 1 ∨ 1024 < wd ∨ 65536 < line.size
  · rw [if_pos hc] at hne; exact absurd rfl hne
  rw [if_neg hc, List.length_map, rowsFrom, List.length_cons]
  obtain ⟨P, R, h1, h2, _, _, _, _, _, _, h9⟩ := row_law (rulI line wd tab wideA raw) (by show 1 ≤ wd; omega) (textOf line) (countI line).isSome 0 0 (Bord.zero _)
  obtain ⟨_, _, b3, _⟩ := rowI_bord (rulI line wd tab wideA raw) (textOf line) (countI line).isSome 0 0 (Bord.zero _)
  have hR : R = [] := h9 (by
    have e : wOf (rulI line wd tab wideA raw) (P ++ R) = colsI tab wideA raw (textOf line) := by unfold wOf colsI piecesI; rw [h1]; rfl
    rw [e]; exact h)
  subst hR
  obtain ⟨_, _, _, c4⟩ := cut_pieces (textOf line) 0 0 (Bord.zero _) P [] h1
  rw [if_neg, List.length_nil]
  intro hk
  have hlt := (b3 hk).2
  rw [h2] at hlt
  rw [piecesF_cons (textOf line) (0 + szs P) hlt] at c4
  cases c4
end Go.Proofs.YtphlhnkenehnnaaGreatDoor
