/- Plain facts on a text's clusters: what is cut at a border has the same clusters ahead of it. No program is in sight. -/
import Derived.Test.YtlbclfmbejjneaaGreatDoorPieces
import Derived.Lib.DecodeN
namespace Go.Proofs.YtlbclfmbejjneaaGreatDoor
set_option linter.unusedVariables false
set_option linter.unusedSimpArgs false
open Go.Lib in
set_option maxRecDepth 100000 in
set_option maxHeartbeats 4000000 in
theorem decodeN_cut (n k b0 b1 b2 b3 c1 c2 c3 : Nat) (hk : 1 ≤ k) (hkn : k ≤ n) (h1 : 1 < k → c1 = b1) (h2 : 2 < k → c2 = b2) (h3 : 3 < k → c3 = b3) :
    decodeN k b0 c1 c2 c3 = if (decodeN n b0 b1 b2 b3).2 ≤ k then decodeN n b0 b1 b2 b3 else (65533, 1) := by
  by_cases e1 : 1 < k
  · obtain rfl := h1 e1
    by_cases e2 : 2 < k
    · obtain rfl := h2 e2
      by_cases e3 : 3 < k
      · obtain rfl := h3 e3
        have : ∀ m : Nat, m ≥ 4 → decodeN m b0 c1 c2 c3 = decodeN 4 b0 c1 c2 c3 := fun m hm => by
          unfold decodeN
          simp only [show (1 < m) = True from by simp; omega, show (2 < m) = True from by simp; omega, show (3 < m) = True from by simp; omega]
          simp
        rw [this k (by omega), this n (by omega), if_pos]
        unfold decodeN
        repeat' split
        all_goals (simp only; try omega)
      · obtain rfl : k = 3 := by omega
        unfold decodeN
        repeat' split
        all_goals first | rfl | (exfalso; simp_all; done) | (exfalso; simp_all; omega)
    · obtain rfl : k = 2 := by omega
      unfold decodeN
      repeat' split
      all_goals first | rfl | (exfalso; simp_all; done) | (exfalso; simp_all; omega)
  · obtain rfl : k = 1 := by omega
    unfold decodeN
    repeat' split
    all_goals first | rfl | (exfalso; simp_all; done) | (exfalso; simp_all; omega)
theorem cut_get (t : ByteArray) (k j : Nat) (h : j < k) (hk : k ≤ t.size) : (t.extract 0 k).get! j = t.get! j := by
  have e1 : j < (t.extract 0 k).size := by simp [ByteArray.size_extract]; omega
  show (t.extract 0 k).data[j]! = t.data[j]!
  rw [getElem!_pos (t.extract 0 k).data j e1, getElem!_pos t.data j (show j < t.size by omega)]
  simp [ByteArray.data_extract]
theorem cut_dec (t : ByteArray) (k : Nat) (h0 : 0 < k) (hk : k ≤ t.size) : Lib.decodeGo (t.extract 0 k) = if decN t ≤ k then Lib.decodeGo t else (65533, 1) := by
  have hz : (t.extract 0 k).size = k := by simp [ByteArray.size_extract]; omega
  have h1 : Lib.decodeGo (t.extract 0 k) = Utf8.decode (t.extract 0 k) 0 := by unfold Lib.decodeGo; rw [if_neg (by omega)]
  have h2 : Lib.decodeGo t = Utf8.decode t 0 := by unfold Lib.decodeGo; rw [if_neg (by omega)]
  unfold decN
  rw [h1, h2, Lib.decode_at, Lib.decode_at t, hz, cut_get t k 0 h0 hk]
  exact decodeN_cut _ _ _ _ _ _ _ _ _ h0 (by omega) (fun h => by rw [cut_get t k _ h hk]) (fun h => by rw [cut_get t k _ h hk]) (fun h => by rw [cut_get t k _ h hk])
theorem ext_ext (t : ByteArray) (a b c d : Nat) : (t.extract a b).extract c d = t.extract (a + c) (min (a + d) b) := by
  apply ByteArray.ext
  simp [ByteArray.data_extract, Array.extract_extract]
theorem more_cut (x : Int) (t : ByteArray) (k : Nat) (hk : k ≤ t.size) : ∀ (f n : Nat) (z : Int) (a : Nat), a ≤ k → moreF x t f n z a ≤ k → moreF x (t.extract 0 k) f n z a = moreF x t f n z a
  | 0, _, _, _, _, _ => rfl
  | f + 1, n, z, a, ha, h => by
    have hz : (t.extract 0 k).size = k := by simp [ByteArray.size_extract]; omega
    obtain ⟨u, hu⟩ : ∃ u, t.extract a t.size = u := ⟨_, rfl⟩
    have huz : u.size = t.size - a := by rw [← hu]; exact ext_size t a (by omega)
    have hv : (t.extract 0 k).extract a k = u.extract 0 (k - a) := by
      rw [← hu, ext_ext, ext_ext]
      congr 1 <;> omega
    rw [moreF, hz, hv]
    rw [moreF, hu] at h ⊢
    by_cases hak : a = k
    · rw [if_pos (.inl hak)]
      subst hak
      have hup := decN_pos u
      split
      · rfl
      · rename_i hn
        rw [if_neg hn] at h
        split
        · rename_i hg
          rw [if_pos hg] at h
          have := moreF_bd x t f (n + 1) (decR u) (a + decN u) (by have := decN_le u; omega)
          by_cases e : a = t.size
          · exact absurd (.inl e) hn
          · have := hup (by omega); omega
        · rfl
    · have hcd := cut_dec u (k - a) (by omega) (by omega)
      by_cases hle : decN u ≤ k - a
      · rw [if_pos hle] at hcd
        have e1 : decR (u.extract 0 (k - a)) = decR u := by unfold decR; rw [hcd]
        have e2 : decN (u.extract 0 (k - a)) = decN u := by unfold decN; rw [hcd]
        rw [e1, e2]
        by_cases hb : decR u = 65533 ∧ decN u = 1
        · rw [if_pos (.inr hb), if_pos (.inr hb)]
        · have hn : ¬ (a = t.size ∨ (decR u = 65533 ∧ decN u = 1)) := by rintro (e | e); omega; exact hb e
          rw [if_neg hn] at h ⊢
          rw [if_neg (by rintro (e | e); exact hak e; exact hb e)]
          by_cases hg : goesOn x z (decR u) n = true
          · rw [if_pos hg] at h ⊢
            rw [if_pos hg]
            exact more_cut x t k hk f (n + 1) _ _ (by omega) h
          · rw [if_neg hg, if_neg hg]
      · rw [if_neg hle] at hcd
        have e1 : decR (u.extract 0 (k - a)) = 65533 := by unfold decR; rw [hcd]; rfl
        have e2 : decN (u.extract 0 (k - a)) = 1 := by unfold decN; rw [hcd]
        rw [if_pos (.inr ⟨e1, e2⟩)]
        split
        · rfl
        · rename_i hn
          rw [if_neg hn] at h
          split
          · rename_i hg
            rw [if_pos hg] at h
            have := moreF_bd x t f (n + 1) (decR u) (a + decN u) (by have := decN_le u; omega)
            omega
          · rfl
set_option maxRecDepth 100000 in
theorem decR_13 (t : ByteArray) (h : decR t = 13) : decN t = 1 := by
  unfold decR Lib.decodeGo at h
  unfold decN Lib.decodeGo
  split at h
  · simp at h
  · rename_i hn
    rw [if_neg hn]
    rw [Lib.decode_at] at h ⊢
    unfold Lib.decodeN at h ⊢
    repeat' split at h
    all_goals first | (simp only at h; omega) | simp_all
theorem next_cut (t : ByteArray) (k : Nat) (hk : k ≤ t.size) (h : nextI t ≤ k) : nextI (t.extract 0 k) = nextI t := by
  have hz : (t.extract 0 k).size = k := by simp [ByteArray.size_extract]; omega
  by_cases h0 : t.size = 0
  · obtain rfl : k = 0 := by omega
    unfold nextI
    rw [if_pos h0, if_pos hz]
  · have hp := nextI_bd t (by omega)
    have hcd := cut_dec t k (by omega) hk
    have hnn : decN t ≤ nextI t := by
      unfold nextI
      rw [if_neg h0]
      split
      · split
        · rename_i e; have := decR_13 t e.1; omega
        · omega
      · exact (moreF_bd _ t 31 1 _ _ (decN_le t)).1
    rw [if_pos (by omega)] at hcd
    have e1 : decR (t.extract 0 k) = decR t := by unfold decR; rw [hcd]
    have e2 : decN (t.extract 0 k) = decN t := by unfold decN; rw [hcd]
    have hk0 : ¬ k = 0 := by omega
    unfold nextI at h ⊢
    rw [if_neg h0] at h ⊢
    rw [hz, if_neg hk0, e1, e2]
    by_cases hs : (decR t = 65533 ∧ decN t = 1) ∨ aloneB (decR t) = true
    · rw [if_pos hs] at h ⊢
      rw [if_pos hs]
      by_cases h13 : decR t = 13 ∧ 1 < t.size ∧ t.get! 1 = 10
      · rw [if_pos h13] at h ⊢
        rw [if_pos ⟨h13.1, by omega, by rw [cut_get t k 1 (by omega) hk]; exact h13.2.2⟩]
      · rw [if_neg h13] at h ⊢
        rw [if_neg]
        rintro ⟨g1, g2, g3⟩
        rw [cut_get t k 1 g2 hk] at g3
        exact h13 ⟨g1, by omega, g3⟩
    · rw [if_neg hs] at h ⊢
      rw [if_neg hs]
      exact more_cut _ t k hk 31 1 _ _ (by have := (moreF_bd (decR t) t 31 1 (decR t) (decN t) (decN_le t)).1; omega) h
/-- fuel enough is fuel enough -/
theorem piecesF_fuel (s : ByteArray) : ∀ (f g a : Nat), s.size ≤ a + f → s.size ≤ a + g → piecesF s f a = piecesF s g a
  | 0, g, a, h, _ => by
    cases g with
    | zero => rfl
    | succ g => rw [piecesF, piecesF, if_neg (by omega)]
  | f + 1, g, a, h, hg => by
    cases g with
    | zero => rw [piecesF, piecesF, if_neg (by omega)]
    | succ g =>
      rw [piecesF, piecesF]
      split
      · rename_i hl
        have := nextI_bd (s.extract a s.size) (by rw [ext_size s a (by omega)]; omega)
        rw [piecesF_fuel s f g _ (by omega) (by omega)]
      · rfl
/-- a text's clusters from a place on, with the places told from there -/
theorem piecesF_tail (s : ByteArray) (b : Nat) (hb : b ≤ s.size) : ∀ (f a : Nat), piecesF s f (b + a) = (piecesF (s.extract b s.size) f a).map fun p => (b + p.1, p.2)
  | 0, _ => rfl
  | f + 1, a => by
    have hz := ext_size s b hb
    have e : (s.extract b s.size).extract a (s.extract b s.size).size = s.extract (b + a) s.size := by
      rw [ext_ext, hz]; congr 1; omega
    rw [piecesF, piecesF, e, hz]
    by_cases hl : b + a < s.size
    · rw [if_pos hl, if_pos (by omega), List.map_cons]
      have hn := nextI_bd (s.extract (b + a) s.size) (by rw [ext_size s (b + a) (by omega)]; omega)
      rw [ext_size s (b + a) (by omega)] at hn
      rw [Nat.add_assoc, piecesF_tail s b hb f, ext_ext, Nat.min_eq_left (by omega)]
    · rw [if_neg hl, if_neg (by omega), List.map_nil]
theorem pieces_tail (s : ByteArray) (b : Nat) (hb : b ≤ s.size) : piecesF s s.size b = (piecesI (s.extract b s.size)).map fun p => (b + p.1, p.2) := by
  have := piecesF_tail s b hb s.size 0
  rw [Nat.add_zero] at this
  rw [this]
  unfold piecesI
  rw [piecesF_fuel (s.extract b s.size) s.size (s.extract b s.size).size 0 (by rw [ext_size s b hb]; omega) (by omega)]
/-- a place between clusters, k clusters being ahead of it -/
def Bord (s : ByteArray) (b k : Nat) : Prop := b ≤ s.size ∧ ∃ pre, piecesI s = pre ++ piecesF s s.size b ∧ pre.length = k
theorem Bord.zero (s : ByteArray) : Bord s 0 0 := ⟨Nat.zero_le _, [], rfl, rfl⟩
theorem piecesF_cons (s : ByteArray) (b : Nat) (hb : b < s.size) : piecesF s s.size b = (b, s.extract b (b + nextI (s.extract b s.size))) :: piecesF s s.size (b + nextI (s.extract b s.size)) := by
  obtain ⟨f, hf⟩ : ∃ f, s.size = f + 1 := ⟨s.size - 1, by omega⟩
  have hn := nextI_bd (s.extract b s.size) (by rw [ext_size s b (by omega)]; omega)
  have h1 : piecesF s (f + 1) b = (b, s.extract b (b + nextI (s.extract b s.size))) :: piecesF s f (b + nextI (s.extract b s.size)) := by rw [piecesF, if_pos hb]
  rw [piecesF_fuel s s.size (f + 1) b (by omega) (by omega), h1, piecesF_fuel s f s.size _ (by omega) (by omega)]
theorem piecesF_nil (s : ByteArray) (f : Nat) : piecesF s f s.size = [] := by
  cases f with
  | zero => rfl
  | succ f => rw [piecesF, if_neg (Nat.lt_irrefl _)]
theorem Bord.next {s : ByteArray} {b k : Nat} (h : Bord s b k) (hb : b < s.size) : Bord s (b + nextI (s.extract b s.size)) (k + 1) := by
  obtain ⟨_, pre, hp, hl⟩ := h
  have hn := nextI_bd (s.extract b s.size) (by rw [ext_size s b (by omega)]; omega)
  rw [ext_size s b (by omega)] at hn
  refine ⟨by omega, pre ++ [(b, s.extract b (b + nextI (s.extract b s.size)))], ?_, by rw [List.length_append, hl]; rfl⟩
  rw [hp, piecesF_cons s b hb, List.append_assoc, List.singleton_append]
theorem Bord.lt {s : ByteArray} {b k : Nat} (h : Bord s b k) (hb : b < s.size) : k < (piecesI s).length := by
  obtain ⟨_, pre, hp, hl⟩ := h
  rw [hp, piecesF_cons s b hb, List.length_append, List.length_cons]
  omega
/-- the clusters of a text that is cut at a border -/
theorem piecesF_cut (s : ByteArray) (e : Nat) (he : e ≤ s.size) : ∀ (f a : Nat) (pre : List (Nat × ByteArray)), a ≤ e → e ≤ a + f → piecesF s s.size a = pre ++ piecesF s s.size e → (∀ p ∈ pre, p.1 < e) → piecesF (s.extract 0 e) f a = pre
  | 0, a, pre, ha, hf, h, hlt => by
    obtain rfl : a = e := by omega
    have := congrArg List.length h
    rw [List.length_append] at this
    rw [piecesF]
    exact (List.eq_nil_of_length_eq_zero (by omega)).symm
  | f + 1, a, pre, ha, hf, h, hlt => by
    have hz : (s.extract 0 e).size = e := by simp [ByteArray.size_extract]; omega
    rw [piecesF, hz]
    by_cases hae : a = e
    · subst hae
      have := congrArg List.length h
      rw [List.length_append] at this
      rw [if_neg (Nat.lt_irrefl _)]
      exact (List.eq_nil_of_length_eq_zero (by omega)).symm
    · rw [if_pos (by omega)]
      rw [piecesF_cons s a (by omega)] at h
      have hn := nextI_bd (s.extract a s.size) (by rw [ext_size s a (by omega)]; omega)
      rw [ext_size s a (by omega)] at hn
      cases pre with
      | nil =>
        exfalso
        rw [List.nil_append] at h
        by_cases hes : e = s.size
        · rw [hes, piecesF_nil] at h; cases h
        · rw [piecesF_cons s e (by omega)] at h
          have := congrArg (fun l => (l.head?.map (·.1))) h
          simp at this
          omega
      | cons p t =>
        rw [List.cons_append] at h
        obtain ⟨rfl, h2⟩ := List.cons.inj h
        clear h
        have h := h2
        clear h2
        have hne : a + nextI (s.extract a s.size) ≤ e := by
          by_cases hx : a + nextI (s.extract a s.size) < s.size
          · rw [piecesF_cons s _ hx] at h
            cases t with
            | nil =>
              rw [List.nil_append] at h
              by_cases hes : e = s.size
              · omega
              · rw [piecesF_cons s e (by omega)] at h
                have := congrArg (fun l => (l.head?.map (·.1))) h
                simp at this
                omega
            | cons q t =>
              rw [List.cons_append] at h
              obtain ⟨hq, _⟩ := List.cons.inj h
              subst hq
              have := hlt (a + nextI (s.extract a s.size), s.extract (a + nextI (s.extract a s.size)) (a + nextI (s.extract a s.size) + nextI (s.extract (a + nextI (s.extract a s.size)) s.size))) (by simp)
              simp at this
              omega
          · have hx2 : a + nextI (s.extract a s.size) = s.size := by omega
            rw [hx2, piecesF_nil] at h
            by_cases hes : e = s.size
            · omega
            · rw [piecesF_cons s e (by omega)] at h
              have := congrArg List.length h
              simp at this
        have hc : (s.extract 0 e).extract a e = (s.extract a s.size).extract 0 (e - a) := by
          rw [ext_ext, ext_ext]; congr 1 <;> omega
        rw [hc, next_cut _ _ (by rw [ext_size s a (by omega)]; omega) (by omega), ext_ext, Nat.zero_add, Nat.zero_add, Nat.min_eq_left hne]
        rw [piecesF_cut s e he f _ t hne (by omega) h (fun p hp => hlt p (List.mem_cons_of_mem _ hp))]
theorem piecesF_lt (s : ByteArray) : ∀ (f a : Nat) (p : Nat × ByteArray), p ∈ piecesF s f a → a ≤ p.1 ∧ p.1 < s.size
  | 0, _, _, h => by simp [piecesF] at h
  | f + 1, a, p, h => by
    rw [piecesF] at h
    split at h
    · rename_i hl
      rcases List.mem_cons.1 h with rfl | h
      · exact ⟨Nat.le_refl _, hl⟩
      · have := piecesF_lt s f _ p h; omega
    · cases h
end Go.Proofs.YtlbclfmbejjneaaGreatDoor
