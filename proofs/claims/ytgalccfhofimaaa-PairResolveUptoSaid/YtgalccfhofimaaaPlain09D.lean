/- What the law PairAgain of layer 9 rests on: a resolved list is resolved to itself; without brackets a stretch becomes the level's direction, or the one ahead. No program is in sight. -/
import Derived.Test.YtgalccfhofimaaaPlain09C
namespace Go.Proofs.Ytgalccfhofimaaa
set_option linter.unusedVariables false
set_option linter.unusedSimpArgs false

theorem wayI_alI (y : Int) : wayI (alI y) = wayI y := by
  unfold alI; split
  · rename_i h; rw [h]; decide
  · rfl
theorem alI_ne (y : Int) : alI y ≠ 2 := by
  unfold alI; split <;> omega
theorem ith_extP {xs ys : List Int} (hl : xs.length = ys.length) (h : ∀ i, i < xs.length → ith xs i = ith ys i) : xs = ys := by
  refine List.ext_getElem hl fun i h1 h2 => ?_
  have := h i h1
  simpa [ith, List.getD_eq_getElem?_getD, List.getElem?_eq_getElem h1, List.getElem?_eq_getElem h2] using this
theorem ith_takeP (xs : List Int) (m j : Nat) (h : j < m) : ith (xs.take m) j = ith xs j := by
  unfold ith; rw [List.getD_eq_getElem?_getD, List.getD_eq_getElem?_getD, List.getElem?_take, if_pos h]

theorem brkF_none (rs ks : List Int) (n : Nat) (h : ∀ i, i < n → (pairI (ith rs i)).2.2 = false ∨ ith ks i ≠ 13) : ∀ (m i : Nat) (st : List (Nat × Int)) (out : List (Nat × Nat)), i + m ≤ n → brkF rs ks m i st out = out
  | 0, _, _, _, _ => rfl
  | m + 1, i, st, out, hm => by rw [brkF, if_pos (h i (by omega))]; exact brkF_none rs ks n h m (i + 1) st out (by omega)

theorem restF_same (n : Nat) (e s0 s1 : Int) (out : List Int) (h : ∀ j, j < n → 0 ≤ wayI (ith out j)) : ∀ (f i : Nat), restF n e s0 s1 f i out = out
  | 0, _ => rfl
  | f + 1, i => by
    unfold restF
    split
    · rename_i hi
      rw [if_pos (h i hi)]; exact restF_same n e s0 s1 out h f (i + 1)
    · rfl

theorem again_same (R L : List Int) (level sos eos : Int) (l : List (Nat × Nat)) (hlen : R.length = L.length) (hw : ∀ j, j < L.length → 0 ≤ wayI (ith L j) ∧ ith L j ≠ 2)
    (hl : l.Perm (brkF (R.take (min R.length L.length)) (alF (min R.length L.length) 0 (L.take (min R.length L.length))) (min R.length L.length) 0 [] [])) : resolveF R L level sos eos l = L := by
  have hM : min R.length L.length = L.length := by omega
  unfold resolveF
  rw [hM] at hl ⊢
  have hal : alF L.length 0 (L.take L.length) = L := by
    rw [List.take_length]
    refine ith_extP (alF_ith L.length 0 L 0 (by omega)).2 fun i hi => ?_
    rw [(alF_ith L.length 0 L 0 (by omega)).2] at hi
    rw [(alF_ith L.length 0 L i (by omega)).1, if_pos (by omega), alI, if_neg (hw i hi).2]
  rw [hal] at hl ⊢
  rw [brkF_none _ _ L.length (fun i hi => .inr (fun e => by have := (hw i hi).1; rw [e] at this; revert this; decide)) L.length 0 [] [] (by omega)] at hl
  obtain rfl := List.perm_nil.1 hl
  rw [resF]
  exact restF_same _ _ _ _ _ (fun j hj => (hw j hj).1) _ _

theorem aheadF_snoc (out : List Int) : ∀ (m i : Nat) (a : Int), aheadF out (m + 1) i a = if 0 ≤ wayI (ith out (i + m)) then wayI (ith out (i + m)) else aheadF out m i a
  | 0, i, a => by simp only [aheadF, Nat.add_zero]
  | m + 1, i, a => by
    have e : i + 1 + m = i + (m + 1) := by omega
    rw [aheadF]
    split
    · rename_i h
      rw [aheadF_snoc out m (i + 1), e]
      simp only [aheadF, if_pos h]
    · rename_i h
      rw [aheadF_snoc out m (i + 1), e]
      simp only [aheadF, if_neg h]
theorem aheadF_neutral (ys : List Int) (i : Nat) (a : Int) : ∀ d : Nat, (∀ x, i ≤ x → x < i + d → wayI (ith ys x) < 0) → aheadF ys (i + d) 0 a = aheadF ys i 0 a
  | 0, _ => rfl
  | d + 1, h => by
    rw [show i + (d + 1) = (i + d) + 1 by omega, aheadF_snoc, Nat.zero_add, if_neg (by have := h (i + d) (by omega) (by omega); omega)]
    exact aheadF_neutral ys i a d (fun x h1 h2 => h x h1 (by omega))
theorem aheadF_congr (xs ys : List Int) (n : Nat) (h : ∀ j, j < n → wayI (ith xs j) = wayI (ith ys j)) : ∀ (m i : Nat) (a : Int), i + m ≤ n → aheadF xs m i a = aheadF ys m i a
  | 0, _, _, _ => rfl
  | m + 1, i, a, hm => by
    rw [aheadF, aheadF, h i (by omega)]
    rw [aheadF_congr xs ys n h m (i + 1) _ (by omega), aheadF_congr xs ys n h m (i + 1) _ (by omega)]

structure Ahd (n : Nat) (e s0 : Int) (ys xs : List Int) (i : Nat) : Prop where
  len : xs.length = n
  above : ∀ j, i ≤ j → j < n → ith xs j = ith ys j
  still : ∀ j, j < i → 0 ≤ wayI (ith ys j) → ith xs j = ith ys j
  turn : ∀ j, j < i → wayI (ith ys j) < 0 → ith xs j = e ∨ ith xs j = aheadF ys j 0 s0

theorem restF_ahd (n : Nat) (e s0 s1 : Int) (ys : List Int) : ∀ (f i : Nat) (xs : List Int), Ahd n e s0 ys xs i → i ≤ n → n < i + f →
    (i < n → wayI (ith ys i) < 0 → 0 < i → 0 ≤ wayI (ith ys (i - 1))) → Ahd n e s0 ys (restF n e s0 s1 f i xs) n
  | 0, i, xs, _, h1, h2, _ => by omega
  | f + 1, i, xs, h, hi, hf, hbe => by
    unfold restF
    split
    · rename_i hin
      have hxi := h.above i (by omega) hin
      split
      · rename_i hc
        rw [hxi] at hc
        refine restF_ahd n e s0 s1 ys f (i + 1) xs ⟨h.len, fun j h1 h2 => h.above j (by omega) h2, fun j hj hw => ?_, fun j hj hw => ?_⟩ (by omega) (by omega) (fun _ _ _ => by simpa using hc)
        · by_cases e : j = i
          · subst e; exact hxi
          · exact h.still j (by omega) hw
        · by_cases e : j = i
          · subst e; omega
          · exact h.turn j (by omega) hw
      · rename_i hc
        rw [hxi] at hc
        obtain ⟨h1, h2, h3, h4⟩ := runF_neutral xs (n - i) i
        have hgt : i + 1 ≤ runF xs (n - i) i := by
          obtain ⟨q, hq⟩ : ∃ q, n - i = q + 1 := ⟨n - i - 1, by omega⟩
          rw [hq, runF, if_pos (by rw [hxi]; omega)]
          exact (runF_neutral xs q (i + 1)).2.1
        generalize hj : runF xs (n - i) i = j at *
        have hneu : ∀ x, i ≤ x → x < j → wayI (ith ys x) < 0 := fun x h5 h6 => by
          have := h1 x h5 h6
          rwa [h.above x h5 (by omega)] at this
        have hav : (if 0 < i then wayI (ith xs (i - 1)) else s0) = aheadF ys i 0 s0 := by
          split
          · rename_i h0
            have hb := hbe hin (by omega) h0
            obtain ⟨p, hp⟩ : ∃ p, i = p + 1 := ⟨i - 1, by omega⟩
            subst hp
            simp only [Nat.add_sub_cancel] at hb ⊢
            rw [h.still p (by omega) hb, aheadF_snoc, Nat.zero_add, if_pos hb]
          · rename_i h0
            have : i = 0 := by omega
            subst this
            rfl
        have hfill : fillI n e s0 s1 i j xs = e ∨ fillI n e s0 s1 i j xs = aheadF ys i 0 s0 := by
          unfold fillI
          rw [hav]
          generalize (if j < n then wayI (ith xs j) else s1) = bv
          split
          · exact .inr rfl
          · exact .inl rfl
        generalize fillI n e s0 s1 i j xs = v at hfill
        have hl := h.len
        have hget : ∀ x, ith (fillF v (j - i) i xs) x = if i ≤ x ∧ x < j then v else ith xs x := fun x => by
          rw [fillF_ith _ _ _ _ _ (by omega)]
          have : i + (j - i) = j := by omega
          rw [this]
        refine restF_ahd n e s0 s1 ys f j _ ⟨by rw [fillF_len]; exact hl, fun x h5 h6 => ?_, fun x h5 h6 => ?_, fun x h5 h6 => ?_⟩ (by omega) (by omega) (fun h5 h6 _ => ?_)
        · rw [hget, if_neg (by omega)]; exact h.above x (by omega) h6
        · by_cases hx : i ≤ x
          · have := hneu x hx h5; omega
          · rw [hget, if_neg (by omega)]; exact h.still x (by omega) h6
        · by_cases hx : i ≤ x
          · rw [hget, if_pos ⟨hx, h5⟩]
            have := aheadF_neutral ys i s0 (x - i) (fun y h7 h8 => hneu y h7 (by omega))
            rw [show i + (x - i) = x by omega] at this
            rw [this]; exact hfill
          · rw [hget, if_neg (by omega)]; exact h.turn x (by omega) h6
        · have := h4 (by omega)
          rw [h.above j (by omega) h5] at this; omega
    · rename_i hin
      have : i = n := by omega
      subst this
      exact h

structure AgainOk (K ans : List Int) (E s0 : Int) : Prop where
  still : ∀ i, i < K.length → 0 ≤ wayI (ith K i) → ith ans i = alI (ith K i)
  turn : ∀ i, i < K.length → wayI (ith K i) < 0 → ith ans i = E ∨ ith ans i = aheadF K i 0 s0

theorem again_ok (P K : List Int) (level : Nat) (sos eos : Int) (l : List (Nat × Nat)) (hlen : P.length = K.length) (hp : ∀ j, j < K.length → (pairI (ith P j)).2.2 = false)
    (hl : l.Perm (brkF (P.take (min P.length K.length)) (alF (min P.length K.length) 0 (K.take (min P.length K.length))) (min P.length K.length) 0 [] [])) :
    AgainOk K (resolveF P K level sos eos l) ((level % 2 : Nat) : Int) (sideI sos) := by
  have hM : min P.length K.length = K.length := by omega
  have hE : ((level : Int) % 2) = ((level % 2 : Nat) : Int) := by omega
  unfold resolveF
  rw [hM] at hl ⊢
  rw [List.take_length] at hl ⊢
  rw [brkF_none _ _ K.length (fun i hi => .inl (by rw [ith_takeP _ _ _ hi]; exact hp i hi)) K.length 0 [] [] (by omega)] at hl
  obtain rfl := List.perm_nil.1 hl
  rw [resF, hE]
  have hy : ∀ j, j < K.length → ith (alF K.length 0 K) j = alI (ith K j) := fun j hj => by
    rw [(alF_ith K.length 0 K j (by omega)).1, if_pos (by omega)]
  have hyl := (alF_ith K.length 0 K 0 (by omega)).2
  have h := restF_ahd K.length ((level % 2 : Nat) : Int) (sideI sos) (sideI eos) (alF K.length 0 K) (K.length + 1) 0 (alF K.length 0 K)
    ⟨hyl, fun _ _ _ => rfl, fun _ h _ => absurd h (by omega), fun _ h _ => absurd h (by omega)⟩ (by omega) (by omega) (fun _ _ h => absurd h (by omega))
  refine ⟨fun i hi hw => ?_, fun i hi hw => ?_⟩
  · rw [h.still i hi (by rw [hy i hi, wayI_alI]; exact hw), hy i hi]
  · rw [← aheadF_congr _ K K.length (fun j hj => by rw [hy j hj, wayI_alI]) i 0 (sideI sos) (by omega)]
    exact h.turn i hi (by rw [hy i hi, wayI_alI]; exact hw)
end Go.Proofs.Ytgalccfhofimaaa
