/- Plain laws of layer 9: what resolveF leaves: its length; what has a direction stays; nothing neutral is left; one direction alone fills all; no program is in sight. -/
import Derived.Test.YtbhhebheclfdlaaPlain09
namespace Go.Proofs.Ytbhhebheclfdlaa
set_option linter.unusedVariables false
set_option linter.unusedSimpArgs false

theorem ith_setP (l : List Int) (i j : Nat) (v : Int) (h : i < l.length) : ith (l.set i v) j = if i = j then v else ith l j := by
  unfold ith
  rw [List.getD_eq_getElem?_getD, List.getElem?_set, List.getD_eq_getElem?_getD]
  by_cases e : i = j
  · subst e; simp [h]
  · simp [e]

/-- xs has the length of ys; where ys has a direction xs is as ys is; a neutral place of ys is left or becomes a direction 0 or 1 that D allows -/
structure Turned (D : Int → Prop) (ys xs : List Int) : Prop where
  len : xs.length = ys.length
  keep : ∀ i, i < ys.length → 0 ≤ wayI (ith ys i) → ith xs i = ith ys i
  turn : ∀ i, i < ys.length → wayI (ith ys i) < 0 → ith xs i = ith ys i ∨ D (ith xs i)

theorem Turned.refl (D : Int → Prop) (ys : List Int) : Turned D ys ys := ⟨rfl, fun _ _ _ => rfl, fun _ _ _ => .inl rfl⟩
theorem Turned.set {D : Int → Prop} {ys xs : List Int} (h : Turned D ys xs) (i : Nat) (v : Int) (hi : i < ys.length) (hw : wayI (ith ys i) < 0) (hv : D v) : Turned D ys (xs.set i v) := by
  have hl := h.len
  refine ⟨by rw [List.length_set]; exact hl, fun j hj hwj => ?_, fun j hj hwj => ?_⟩
  · rw [ith_setP _ _ _ _ (by omega), if_neg (fun e => by subst e; omega)]
    exact h.keep j hj hwj
  · rw [ith_setP _ _ _ _ (by omega)]
    split
    · exact .inr hv
    · exact h.turn j hj hwj
/-- a place that is neutral now was neutral -/
theorem Turned.was {D : Int → Prop} {ys xs : List Int} (h : Turned D ys xs) (i : Nat) (hi : i < ys.length) (hw : wayI (ith xs i) < 0) : wayI (ith ys i) < 0 := by
  by_cases hn : 0 ≤ wayI (ith ys i)
  · rw [h.keep i hi hn] at hw; omega
  · omega

theorem spreadF_turned {D : Int → Prop} (rs : List Int) (k : Int) (hk : D k) (ys : List Int) : ∀ (m i : Nat) (xs : List Int), Turned D ys xs → i + m ≤ ys.length → Turned D ys (spreadF rs k m i xs)
  | 0, i, xs, h, _ => h
  | m + 1, i, xs, h, hm => by
    unfold spreadF
    split
    · rename_i hc
      exact spreadF_turned rs k hk ys m (i + 1) _ (h.set i k (by omega) (h.was i (by omega) hc.1) hk) (by omega)
    · exact h
theorem markF_turned {D : Int → Prop} (rs : List Int) (n : Nat) (k : Int) (hk : D k) (ys xs : List Int) (b : Nat) (h : Turned D ys xs) (hn : ys.length = n) (hb : b < n) (hw : wayI (ith ys b) < 0) : Turned D ys (markF rs n k b xs) := by
  unfold markF
  exact spreadF_turned rs k hk ys _ _ _ (h.set b k (by omega) hw hk) (by omega)
theorem decF_val (xs : List Int) (e ahead : Int) : ∀ (m i : Nat) (acc : Int), (acc = -1 ∨ acc = ahead) → decF xs e ahead m i acc = -1 ∨ decF xs e ahead m i acc = e ∨ decF xs e ahead m i acc = ahead
  | 0, _, acc, h => by rcases h with h | h <;> simp [decF, h]
  | m + 1, i, acc, h => by
    unfold decF
    split
    · exact .inr (.inl rfl)
    · split
      · exact decF_val xs e ahead m (i + 1) acc h
      · exact decF_val xs e ahead m (i + 1) ahead (.inr rfl)
theorem aheadF_val (out : List Int) (P : Int → Prop) (hP : ∀ i, i < out.length → 0 ≤ wayI (ith out i) → P (wayI (ith out i))) : ∀ (m i : Nat) (a : Int), i + m ≤ out.length → P a → P (aheadF out m i a)
  | 0, _, a, _, h => h
  | m + 1, i, a, hm, h => by
    unfold aheadF
    split
    · rename_i hc; exact aheadF_val out P hP m (i + 1) _ (by omega) (hP i (by omega) hc)
    · exact aheadF_val out P hP m (i + 1) a (by omega) h
theorem wayI_val (y : Int) : wayI y = -1 ∨ wayI y = 0 ∨ wayI y = 1 := by
  unfold wayI; split
  · exact .inr (.inl rfl)
  · split
    · exact .inr (.inr rfl)
    · exact .inl rfl
/-- D is met by e, and by whatever direction stands in the list and its turned forms -/
theorem resF_turned {D : Int → Prop} (rs : List Int) (n : Nat) (e : Int) (he : D e) (ys : List Int) (hn : ys.length = n) (hD : ∀ i, i < ys.length → 0 ≤ wayI (ith ys i) → D (wayI (ith ys i))) (hw0 : ∀ v, D v → wayI v = v ∧ 0 ≤ v) :
    ∀ (l : List (Nat × Nat)) (at' : Nat) (ahead : Int) (xs : List Int), (∀ p ∈ l, p.1 < p.2 ∧ p.2 < n ∧ wayI (ith ys p.1) < 0 ∧ wayI (ith ys p.2) < 0) → at' ≤ n → D ahead → Turned D ys xs → Turned D ys (resF rs n e l at' ahead xs)
  | [], at', ahead, xs, _, _, _, h => h
  | p :: ps, at', ahead, xs, hl, hat, ha, h => by
    obtain ⟨hp1, hp2, hp3, hp4⟩ := hl p (by simp)
    have hps : ∀ q ∈ ps, q.1 < q.2 ∧ q.2 < n ∧ wayI (ith ys q.1) < 0 ∧ wayI (ith ys q.2) < 0 := fun q hq => hl q (by simp [hq])
    have hDx : ∀ i, i < xs.length → 0 ≤ wayI (ith xs i) → D (wayI (ith xs i)) := fun i hi hwi => by
      have hi' : i < ys.length := by have := h.len; omega
      by_cases hy : 0 ≤ wayI (ith ys i)
      · rw [h.keep i hi' hy]; exact hD i hi' hy
      · rcases h.turn i hi' (by omega) with h1 | h1
        · rw [h1] at hwi; omega
        · rw [(hw0 _ h1).1]; exact h1
    have hah := aheadF_val xs D hDx (p.1 - at') at' ahead (by have := h.len; omega) ha
    unfold resF
    generalize hA : aheadF xs (p.1 - at') at' ahead = A at *
    split
    · exact resF_turned rs n e he ys hn hD hw0 ps _ A xs hps (by omega) hah h
    · rename_i hneg
      have hk : D (decI xs p.1 p.2 e A) := by
        rcases decF_val xs e A (p.2 - (p.1 + 1)) (p.1 + 1) (-1) (.inl rfl) with h1 | h1 | h1
        · exact absurd (show decI xs p.1 p.2 e A < 0 by unfold decI; omega) hneg
        · unfold decI; rw [h1]; exact he
        · unfold decI; rw [h1]; exact hah
      exact resF_turned rs n e he ys hn hD hw0 ps _ A _ hps (by omega) hah (markF_turned rs n _ hk ys _ p.2 (markF_turned rs n _ hk ys xs p.1 h hn (by omega) hp3) hn hp2 hp4)
theorem fillF_turned {D : Int → Prop} (k : Int) (hk : D k) (ys : List Int) : ∀ (m i : Nat) (xs : List Int), Turned D ys xs → i + m ≤ ys.length → (∀ j, i ≤ j → j < i + m → wayI (ith ys j) < 0) → Turned D ys (fillF k m i xs)
  | 0, i, xs, h, _, _ => h
  | m + 1, i, xs, h, hm, hw => fillF_turned k hk ys m (i + 1) _ (h.set i k (by omega) (hw i (by omega) (by omega)) hk) (by omega) (fun j h1 h2 => hw j (by omega) (by omega))
theorem fillF_ith (k : Int) : ∀ (m i : Nat) (xs : List Int) (j : Nat), i + m ≤ xs.length → ith (fillF k m i xs) j = if i ≤ j ∧ j < i + m then k else ith xs j
  | 0, i, xs, j, _ => by rw [fillF, if_neg (by omega)]
  | m + 1, i, xs, j, hm => by
    rw [fillF, fillF_ith k m (i + 1) _ j (by rw [List.length_set]; omega), ith_setP _ _ _ _ (by omega)]
    by_cases h1 : i = j
    · subst h1; rw [if_neg (by omega), if_pos rfl, if_pos (by omega)]
    · rw [if_neg h1]
      by_cases h2 : i + 1 ≤ j ∧ j < i + 1 + m
      · rw [if_pos h2, if_pos (by omega)]
      · rw [if_neg h2, if_neg (by omega)]
theorem fillF_len (k : Int) : ∀ (m i : Nat) (xs : List Int), (fillF k m i xs).length = xs.length
  | 0, i, xs => rfl
  | m + 1, i, xs => by rw [fillF, fillF_len k m (i + 1)]; simp
theorem runF_neutral (out : List Int) : ∀ (m j : Nat), (∀ x, j ≤ x → x < runF out m j → wayI (ith out x) < 0) ∧ j ≤ runF out m j ∧ runF out m j ≤ j + m ∧ (runF out m j < j + m → 0 ≤ wayI (ith out (runF out m j)))
  | 0, j => ⟨fun x h1 h2 => by simp [runF] at h2; omega, by simp [runF], by simp [runF], by simp [runF]⟩
  | m + 1, j => by
    unfold runF
    split
    · rename_i hc
      obtain ⟨h1, h2, h3, h4⟩ := runF_neutral out m (j + 1)
      refine ⟨fun x hx1 hx2 => ?_, by omega, by omega, fun h => h4 (by omega)⟩
      by_cases e : x = j
      · subst e; exact hc
      · exact h1 x (by omega) hx2
    · rename_i hc
      exact ⟨fun x h1 h2 => by omega, by omega, by omega, fun _ => by omega⟩
end Go.Proofs.Ytbhhebheclfdlaa
