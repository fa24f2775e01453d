/- Plain laws of rows for WrapTiles. No program is in sight. -/
import Derived.Test.YtphlhnkenehnnaaGreatDoorFitsP
namespace Go.Proofs.YtphlhnkenehnnaaGreatDoor
set_option linter.unusedVariables false
set_option linter.unusedSimpArgs false
open Go.RowKit

/-- each row is a row from a border on; what follows it -/
theorem rowsF_tile (r : Rul) (T : ByteArray) (e : Bool) : ∀ (f a n : Nat), Bord T a n → T.size < a + f → ∀ i x, (rowsFrom r T e f a n)[i]? = some x →
    ∃ a' n', Bord T a' n' ∧ x = (a', (rowAt1 r T e a' n').1 - a', (rowAt1 r T e a' n').2.2.1, (rowAt1 r T e a' n').2.2.2) ∧ (i = 0 → a' = a) ∧
      ((((rowAt1 r T e a' n').2.2.2 = 2 ∨ (rowAt1 r T e a' n').2.2.2 = 3) ∧ ∃ y, (rowsFrom r T e f a n)[i + 1]? = some y ∧ y.1 = (rowAt1 r T e a' n').1) ∨
       (¬ ((rowAt1 r T e a' n').2.2.2 = 2 ∨ (rowAt1 r T e a' n').2.2.2 = 3) ∧ i + 1 = (rowsFrom r T e f a n).length))
  | 0, a, n, h, hf, i, x, hx => by have := h.1; omega
  | f + 1, a, n, h, hf, i, x, hx => by
    obtain ⟨b, _, b1, _⟩ := rowI_bord r T e a n h
    rw [rowsFrom] at hx ⊢
    by_cases hc : (rowAt1 r T e a n).2.2.2 = 2 ∨ (rowAt1 r T e a n).2.2.2 = 3
    · rw [if_pos hc] at hx ⊢
      have hb := b1 hc
      cases i with
      | zero =>
        rw [List.getElem?_cons_zero] at hx
        refine ⟨a, n, h, (Option.some.inj hx).symm, fun _ => rfl, .inl ⟨hc, ?_⟩⟩
        rw [List.getElem?_cons_succ]
        obtain ⟨g, rfl⟩ : ∃ g, f = g + 1 := ⟨f - 1, by omega⟩
        rw [rowsFrom]
        exact ⟨_, rfl, rfl⟩
      | succ i =>
        rw [List.getElem?_cons_succ] at hx
        obtain ⟨a', n', h1, h2, _, h3⟩ := rowsF_tile r T e f _ _ b (by omega) i x hx
        refine ⟨a', n', h1, h2, (fun h => by omega), ?_⟩
        rw [List.getElem?_cons_succ, List.length_cons]
        rcases h3 with h3 | ⟨h3, h4⟩
        · exact .inl h3
        · exact .inr ⟨h3, by omega⟩
    · rw [if_neg hc] at hx ⊢
      cases i with
      | zero =>
        rw [List.getElem?_cons_zero] at hx
        exact ⟨a, n, h, (Option.some.inj hx).symm, fun _ => rfl, .inr ⟨hc, rfl⟩⟩
      | succ i => simp at hx
theorem piecesF_inj (s : ByteArray) (a b : Nat) (ha : a ≤ s.size) (hb : b ≤ s.size) (h : piecesF s s.size a = piecesF s s.size b) : a = b := by
  by_cases h1 : a < s.size
  · rw [piecesF_cons s a h1] at h
    by_cases h2 : b < s.size
    · rw [piecesF_cons s b h2] at h
      have := (List.cons.inj h).1
      injection this
    · have : b = s.size := by omega
      rw [this, piecesF_nil] at h; cases h
  · have e : a = s.size := by omega
    by_cases h2 : b < s.size
    · rw [e, piecesF_nil, piecesF_cons s b h2] at h; cases h
    · omega
/-- the cluster ahead of a border ends there -/
theorem last_end (s : ByteArray) : ∀ (pre : List (Nat × ByteArray)) (a b : Nat), a ≤ s.size → b ≤ s.size → piecesF s s.size a = pre ++ piecesF s s.size b → ∀ k, pre.length = k + 1 → ∃ p, (piecesF s s.size a)[k]? = some p ∧ p.1 + p.2.size = b
  | [], a, b, ha, hb, h, k, hk => by cases hk
  | q :: t, a, b, ha, hb, h, k, hk => by
    have hlt : a < s.size := by
      by_cases e : a < s.size
      · exact e
      · have : a = s.size := by omega
        rw [this, piecesF_nil] at h; cases h
    have h0 := h
    rw [piecesF_cons s a hlt, List.cons_append] at h
    obtain ⟨hq, ht⟩ := List.cons.inj h
    have hn := nextI_bd (s.extract a s.size) (by rw [ext_size s a (by omega)]; omega)
    rw [ext_size s a (by omega)] at hn
    cases k with
    | zero =>
      have ht0 : t = [] := by
        rw [List.length_cons] at hk
        exact List.length_eq_zero_iff.1 (by omega)
      subst ht0
      have he := piecesF_inj s _ _ (by omega) hb ht
      refine ⟨q, by rw [h0]; rfl, ?_⟩
      rw [← hq, ← he]
      show a + (s.extract a (a + nextI (s.extract a s.size))).size = _
      simp [ByteArray.size_extract]; omega
    | succ k =>
      rw [List.length_cons] at hk
      obtain ⟨p, hp, hpe⟩ := last_end s t _ b (by omega) hb ht k (by omega)
      refine ⟨p, ?_, hpe⟩
      rw [piecesF_cons s a hlt, List.getElem?_cons_succ]
      exact hp
theorem Bord.last {s : ByteArray} {b k : Nat} (h : Bord s b (k + 1)) : ∃ p, (piecesI s)[k]? = some p ∧ p.1 + p.2.size = b := by
  obtain ⟨hb, pre, hp, hl⟩ := h
  exact last_end s pre 0 b (Nat.zero_le _) hb hp k hl
theorem textOf_get (line : ByteArray) (k : Nat) (p : Nat × ByteArray) (h : (piecesI (textOf line))[k]? = some p) : (piecesI line)[k]? = some p := by
  obtain ⟨_, post, e⟩ := textOf_pieces line
  rw [e, List.getElem?_append_left (List.getElem?_eq_some_iff.1 h).1]
  exact h
/-- places behind a text's clusters that are marked -/
def Ended (L : List (Nat × ByteArray)) (j : Nat) : Prop := ∃ (k : Nat) (p : Nat × ByteArray), L[k]? = some p ∧ p.1 + p.2.size = j
def EndedMay (L : List (Nat × ByteArray)) (wh : List Int) (j : Nat) : Prop := ∃ (k : Nat) (p : Nat × ByteArray), L[k]? = some p ∧ p.1 + p.2.size = j ∧ ith wh k = 1
/-- what WrapTiles asks of each row of a line -/
def TileOk (line T : ByteArray) (wd : Int) (e : Bool) (X : List RowV) (i : Nat) (v : RowV) : Prop :=
  ∃ a len : Nat, v.a = a ∧ v.len = len ∧ a + len ≤ T.size ∧ (a + len = 0 ∨ Ended (piecesI T) (a + len)) ∧ 0 ≤ v.wide ∧ (wd < v.wide → (piecesI (T.extract a (a + len))).length = 1) ∧ (i = 0 → a = 0) ∧
    ((i + 1 < X.length ∧ (∃ y, X[i + 1]? = some y ∧ y.a = ((a + len : Nat) : Int)) ∧ 0 < len ∧ (v.fin = 3 ∨ v.fin = 2 ∧ EndedMay (piecesI line) (whereI line) (a + len))) ∨
     (i + 1 = X.length ∧ a + len = T.size ∧ v.fin = lastEnd e))
theorem tiles_rows (line : ByteArray) (wd tab want : Int) (wideA raw : Bool) (X : List RowV) (hX : rowsI line wd tab want wideA raw = X) :
    (wd < 1 ∨ 1024 < wd ∨ 65536 < line.size → X = []) ∧ (¬ (wd < 1 ∨ 1024 < wd ∨ 65536 < line.size) → X ≠ []) ∧ X.length ≤ 65537 ∧ ∀ (i : Nat) (v : RowV), X[i]? = some v → TileOk line (textOf line) wd (countI line).isSome X i v := by
  refine ⟨fun h => ?_, fun h => ?_, hX ▸ rows_len line wd tab want wideA raw, fun i v hv => ?_⟩
  · subst hX
    unfold rowsI
    rw [if_pos h]
  · subst hX
    unfold rowsI
    rw [if_neg h, rowsFrom, List.map_cons]
    simp
  · subst hX
    unfold rowsI at hv ⊢
    by_cases hc : wd < 1 ∨ 1024 < wd ∨ 65536 < line.size
    · rw [if_pos hc] at hv; simp at hv
    rw [if_neg hc, List.getElem?_map] at hv
    rw [if_neg hc]
    have hr1 : (rulI line wd tab wideA raw).w = wd := rfl
    have hr2 : (rulI line wd tab wideA raw).wh = whereI line := rfl
    have hget : ∀ k p, (piecesI (textOf line))[k]? = some p → (piecesI line)[k]? = some p := textOf_get line
    generalize rulI line wd tab wideA raw = r at hv hr1 hr2 ⊢
    generalize levelI (textOf line) want raw = lev at hv ⊢
    generalize textOf line = T at hv hget ⊢
    generalize (countI line).isSome = e at hv ⊢
    generalize hL : rowsFrom r T e (T.size + 1) 0 0 = L at hv ⊢
    obtain ⟨x, hx, rfl⟩ := Option.map_eq_some_iff.1 hv
    obtain ⟨a, n, hb, rfl, hi0, hnx⟩ := rowsF_tile r T e (T.size + 1) 0 0 (Bord.zero _) (by omega) i x (by rw [hL]; exact hx)
    rw [hL] at hnx
    obtain ⟨P, R, h1, h2, h3, h4, h5, h6, h7, h8, _⟩ := row_law r (by omega) T e a n hb
    obtain ⟨b1, b2, b3, b4⟩ := rowI_bord r T e a n hb
    obtain ⟨c1, c2, c3, c4⟩ := cut_pieces T a n hb P R h1
    rw [hr1] at h8
    rw [hr2] at h6
    generalize rowAt1 r T e a n = q at h2 h3 h4 h5 h6 h7 h8 b1 b2 b3 b4 hnx ⊢
    obtain ⟨q1, q2, q3, q4⟩ := q
    dsimp only at h2 h3 h4 h5 h6 h7 h8 b1 b2 b3 b4 hnx ⊢
    have hlen : q1 - a = szs P := by rw [h2]; omega
    refine ⟨a, szs P, rfl, ?_, c1, ?_, h5, fun hw => ?_, hi0, ?_⟩
    · show ((q1 - a : Nat) : Int) = _
      rw [hlen]
    · cases hm : n + P.length with
      | zero =>
        left
        rw [hm] at c2
        obtain ⟨cb, pre, hp, hl⟩ := c2
        have : pre = [] := List.length_eq_zero_iff.1 hl
        subst this
        exact (piecesF_inj _ _ _ (Nat.zero_le _) cb hp).symm
      | succ m => rw [hm] at c2; exact .inr ⟨m, c2.last⟩
    · have := h8 hw
      rw [← c3, List.length_map] at this
      exact this
    · rw [List.length_map]
      rcases hnx with ⟨hk, y, hy, hy1⟩ | ⟨hk, hl⟩
      · left
        have hlt := b3 hk
        refine ⟨?_, ⟨mkRow lev y, by rw [List.getElem?_map, hy]; rfl, ?_⟩, by omega, ?_⟩
        · have := (List.getElem?_eq_some_iff.1 hy).1
          exact this
        · show ((y.1 : Nat) : Int) = _
          rw [hy1, h2]
        · rcases hk with hk | hk
          · right
            obtain ⟨hne, hm⟩ := h6 hk
            refine ⟨hk, ?_⟩
            have hpl : 0 < P.length := List.length_pos_iff.2 hne
            obtain ⟨m, hm'⟩ : ∃ m, n + P.length = m + 1 := ⟨n + P.length - 1, by omega⟩
            rw [hm'] at c2 hm
            obtain ⟨p, hp, hpe⟩ := c2.last
            exact ⟨m, p, hget m p hp, hpe, hm⟩
          · left; exact hk
      · right
        obtain ⟨b5, b6⟩ := b4 hk
        exact ⟨hl, by rw [← h2]; exact b5, b6⟩
end Go.Proofs.YtphlhnkenehnnaaGreatDoor
