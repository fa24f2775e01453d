/- Plain facts on the characters of a text and of its clusters. No program is in sight. -/
import Derived.Test.YtlbclfmbejjneaaGreatDoorText
import Derived.Lib.RuneCount
namespace Go.Proofs.YtlbclfmbejjneaaGreatDoor
set_option linter.unusedVariables false
set_option linter.unusedSimpArgs false

theorem ext_eq2 {t : ByteArray} {a b c d : Nat} (h1 : a = c) (h2 : b = d) : t.extract a b = t.extract c d := by rw [h1, h2]
theorem ext_get (s : ByteArray) (i j : Nat) (hi : i ≤ s.size) : (s.extract i s.size).get! j = s.get! (i + j) := by
  show (s.extract i s.size).data[j]! = s.data[i + j]!
  by_cases h : i + j < s.size
  · have e1 : j < (s.extract i s.size).data.size := by
      have := ext_size s i hi
      show j < (s.extract i s.size).size
      omega
    rw [getElem!_pos (s.extract i s.size).data j e1, getElem!_pos s.data (i + j) h]
    simp [ByteArray.data_extract]
  · have e1 : ¬ j < (s.extract i s.size).data.size := by
      have := ext_size s i hi
      show ¬ j < (s.extract i s.size).size
      omega
    rw [getElem!_neg (s.extract i s.size).data j e1, getElem!_neg s.data (i + j) h]
theorem dec_ext (s : ByteArray) (i j : Nat) (hi : i ≤ s.size) : Utf8.decode (s.extract i s.size) j = Utf8.decode s (i + j) := by
  rw [Lib.decode_at, Lib.decode_at, ext_size s i hi, ext_get s i _ hi, ext_get s i _ hi, ext_get s i _ hi, ext_get s i _ hi]
  rw [show s.size - i - j = s.size - (i + j) by omega, ← Nat.add_assoc, ← Nat.add_assoc, ← Nat.add_assoc]
theorem runesF_fuel (s : ByteArray) : ∀ (f g i : Nat), s.size ≤ i + f → s.size ≤ i + g → runesF s f i = runesF s g i
  | 0, 0, i, hf, hg => rfl
  | 0, g + 1, i, hf, hg => by rw [runesF, runesF, if_neg (by omega)]
  | f + 1, 0, i, hf, hg => by rw [runesF, runesF, if_neg (by omega)]
  | f + 1, g + 1, i, hf, hg => by
    rw [runesF, runesF]
    split
    · rename_i h
      have := Lib.decode_width_pos s i h
      rw [runesF_fuel s f g _ (by omega) (by omega)]
    · rfl
theorem runesF_shift (s : ByteArray) (i : Nat) (hi : i ≤ s.size) : ∀ (f j : Nat), runesF (s.extract i s.size) f j = runesF s f (i + j)
  | 0, j => rfl
  | f + 1, j => by
    rw [runesF, runesF, ext_size s i hi, dec_ext s i j hi]
    by_cases h : i + j < s.size
    · rw [if_pos (by omega), if_pos h, runesF_shift s i hi f, Nat.add_assoc]
    · rw [if_neg (by omega), if_neg h]
theorem runesI_nil (t : ByteArray) (h : t.size = 0) : runesI t = [] := by unfold runesI; rw [h]; rfl
theorem dec_go (t : ByteArray) (h : 0 < t.size) : Utf8.decode t 0 = Lib.decodeGo t := by unfold Lib.decodeGo; rw [if_neg (by omega)]
theorem runesI_cons (t : ByteArray) (h : 0 < t.size) : runesI t = decR t :: runesI (t.extract (decN t) t.size) := by
  have hn := decN_le t
  unfold runesI
  obtain ⟨k, hk⟩ : ∃ k, t.size = k + 1 := ⟨t.size - 1, by omega⟩
  rw [runesF_shift t (decN t) hn, ext_size t _ hn]
  rw [hk, runesF, if_pos (by omega), dec_go t h, Nat.zero_add, Nat.add_zero]
  have hp := decN_pos t h
  show _ :: runesF t k (decN t) = _
  rw [runesF_fuel t k (k + 1 - decN t) (decN t) (by omega) (by omega)]
  rfl
/-- a place between characters -/
inductive Rch : ByteArray → Nat → Prop
  | zero (t : ByteArray) : Rch t 0
  | step (t : ByteArray) (k : Nat) : 0 < t.size → decN t ≤ k → k ≤ t.size → Rch (t.extract (decN t) t.size) (k - decN t) → Rch t k
theorem ext_all (t : ByteArray) : t.extract 0 t.size = t := by
  apply ByteArray.ext
  simp [ByteArray.data_extract]
/-- the characters ahead of a place between characters, and behind it -/
theorem runes_split {t : ByteArray} {k : Nat} (h : Rch t k) : runesI t = runesI (t.extract 0 k) ++ runesI (t.extract k t.size) := by
  induction h with
  | zero t => rw [runesI_nil (t.extract 0 0) (by simp [ByteArray.size_extract]), List.nil_append, ext_all]
  | step t k h1 h2 h3 h4 ih =>
    have hp := decN_pos t h1
    have hz : (t.extract 0 k).size = k := by simp [ByteArray.size_extract]; omega
    have hcd := cut_dec t k (by omega) h3
    rw [if_pos h2] at hcd
    have e1 : decR (t.extract 0 k) = decR t := by unfold decR; rw [hcd]
    have e2 : decN (t.extract 0 k) = decN t := by unfold decN; rw [hcd]
    have ez := ext_size t (decN t) (by omega)
    rw [runesI_cons t h1, ih, runesI_cons (t.extract 0 k) (by omega), e1, e2, hz, List.cons_append]
    have a1 : (t.extract 0 k).extract (decN t) k = (t.extract (decN t) t.size).extract 0 (k - decN t) := by
      rw [ext_ext, ext_ext]
      exact ext_eq2 (by omega) (by omega)
    have a2 : t.extract k t.size = (t.extract (decN t) t.size).extract (k - decN t) (t.extract (decN t) t.size).size := by
      rw [ez, ext_ext]
      exact ext_eq2 (by omega) (by omega)
    rw [a1, a2]
theorem Rch.one {t : ByteArray} (h : 0 < t.size) : Rch t (decN t) := Rch.step t _ h (Nat.le_refl _) (decN_le t) (by rw [Nat.sub_self]; exact Rch.zero _)
/-- one place behind another -/
theorem Rch.trans {t : ByteArray} {k m : Nat} (h : Rch t k) (h2 : Rch (t.extract k t.size) m) (hm : k + m ≤ t.size) : Rch t (k + m) := by
  induction h with
  | zero t => rw [ext_all] at h2; rw [Nat.zero_add]; exact h2
  | step t k a1 a2 a3 a4 ih =>
    have ez := ext_size t (decN t) (by omega)
    refine Rch.step t _ a1 (by omega) hm ?_
    have := ih (by
      rw [ez, ext_ext, show decN t + (k - decN t) = k by omega, show min (decN t + (t.size - decN t)) t.size = t.size by omega]
      exact h2) (by rw [ez]; omega)
    rw [show k + m - decN t = k - decN t + m by omega]
    exact this
theorem more_rch (x : Int) (s : ByteArray) : ∀ (f n : Nat) (z : Int) (a : Nat), a ≤ s.size → Rch s a → Rch s (moreF x s f n z a)
  | 0, _, _, a, ha, h => h
  | f + 1, n, z, a, ha, h => by
    rw [moreF]
    split
    · exact h
    · rename_i hn
      split
      · have hz := ext_size s a ha
        have hne : a ≠ s.size := fun e => hn (.inl e)
        have hl := decN_le (s.extract a s.size)
        exact more_rch x s f _ _ _ (by omega) (h.trans (Rch.one (by omega)) (by omega))
      · exact h
theorem next_rch (s : ByteArray) (h : 0 < s.size) : Rch s (nextI s) := by
  unfold nextI
  rw [if_neg (by omega)]
  split
  · split
    · rename_i e
      have h1 := decR_13 s e.1
      have hr := Rch.one h
      rw [h1] at hr
      have hz := ext_size s 1 (by omega)
      have hd : Lib.decodeGo (s.extract 1 s.size) = (10, 1) := by
        rw [← dec_go _ (by omega), Lib.decode_at, ext_get s 1 0 (by omega)]
        have hb : (s.get! (1 + 0)).toNat = 10 := by rw [Nat.add_zero, e.2.2]; rfl
        rw [hb]
        unfold Lib.decodeN
        rw [if_pos (by omega)]
      have hn : decN (s.extract 1 s.size) = 1 := by unfold decN; rw [hd]
      have := hr.trans (Rch.one (t := s.extract 1 s.size) (by omega)) (by rw [hn]; omega)
      rw [hn] at this
      exact this
    · exact Rch.one h
  · exact more_rch _ s 31 1 _ _ (decN_le s) (Rch.one h)
/-- a text's characters are those of its clusters -/
theorem runes_pieces (T : ByteArray) : ∀ (f a : Nat), a ≤ T.size → T.size ≤ a + f → runesI (T.extract a T.size) = ((piecesF T f a).map (·.2)).flatMap runesI
  | 0, a, ha, hf => by
    rw [runesI_nil _ (by rw [ext_size T a ha]; omega)]; rfl
  | f + 1, a, ha, hf => by
    rw [piecesF]
    by_cases h : a < T.size
    · have hz := ext_size T a ha
      have hn := nextI_bd (T.extract a T.size) (by omega)
      rw [if_pos h, List.map_cons, List.flatMap_cons, ← runes_pieces T f (a + nextI (T.extract a T.size)) (by omega) (by omega), runes_split (next_rch (T.extract a T.size) (by omega))]
      generalize nextI (T.extract a T.size) = n at hn
      have a1 : (T.extract a T.size).extract 0 n = T.extract a (a + n) := by
        rw [ext_ext]; exact ext_eq2 (by omega) (by omega)
      have a2 : (T.extract a T.size).extract n (T.extract a T.size).size = T.extract (a + n) T.size := by
        rw [hz, ext_ext]; exact ext_eq2 (by omega) (by omega)
      rw [a1, a2]
    · rw [if_neg h, runesI_nil _ (by rw [ext_size T a ha]; omega)]; rfl
theorem runes_all (T : ByteArray) : runesI T = ((piecesI T).map (·.2)).flatMap runesI := by
  have := runes_pieces T T.size 0 (Nat.zero_le _) (by omega)
  rw [ext_all] at this
  exact this
/-- at a border between clusters the characters part -/
theorem runes_bord {T : ByteArray} {b k : Nat} (h : Bord T b k) : runesI T = runesI (T.extract 0 b) ++ runesI (T.extract b T.size) := by
  obtain ⟨hb, pre, hp, hl⟩ := h
  have key : ∀ (pre : List (Nat × ByteArray)) (a : Nat), a ≤ T.size → piecesF T T.size a = pre ++ piecesF T T.size b → a ≤ b ∧ Rch (T.extract a T.size) (b - a) := by
    intro pre
    induction pre with
    | nil =>
      intro a ha he
      have hab : a = b := by
        by_cases h1 : a < T.size
        · rw [List.nil_append, piecesF_cons T a h1] at he
          by_cases h2 : b < T.size
          · rw [piecesF_cons T b h2] at he
            have := (List.cons.inj he).1
            injection this
          · rw [show b = T.size by omega, piecesF_nil] at he; cases he
        · rw [List.nil_append, show a = T.size by omega, piecesF_nil] at he
          by_cases h2 : b < T.size
          · rw [piecesF_cons T b h2] at he; cases he
          · omega
      subst hab
      exact ⟨Nat.le_refl _, by rw [Nat.sub_self]; exact Rch.zero _⟩
    | cons q t ih =>
      intro a ha he
      have hlt : a < T.size := by
        by_cases e : a < T.size
        · exact e
        · rw [show a = T.size by omega, piecesF_nil] at he; cases he
      rw [piecesF_cons T a hlt, List.cons_append] at he
      have hz := ext_size T a ha
      have hn := nextI_bd (T.extract a T.size) (by omega)
      obtain ⟨i1, i2⟩ := ih _ (by omega) (List.cons.inj he).2
      have hr := next_rch (T.extract a T.size) (by omega)
      refine ⟨by omega, ?_⟩
      have := hr.trans (m := b - (a + nextI (T.extract a T.size))) (by
        rw [hz, ext_ext, show min (a + (T.size - a)) T.size = T.size by omega]
        exact i2) (by omega)
      rw [show nextI (T.extract a T.size) + (b - (a + nextI (T.extract a T.size))) = b - a by omega] at this
      exact this
  obtain ⟨_, hr⟩ := key pre 0 (Nat.zero_le _) hp
  rw [ext_all, Nat.sub_zero] at hr
  exact runes_split hr
theorem runesI_pos2 (t : ByteArray) (h : 0 < t.size) : 0 < (runesI t).length := by
  rw [runesI_cons t h]; simp
end Go.Proofs.YtlbclfmbejjneaaGreatDoor
