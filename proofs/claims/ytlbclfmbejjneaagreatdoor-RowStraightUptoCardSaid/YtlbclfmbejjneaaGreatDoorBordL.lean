/- Plain facts on the borders of clusters: the border at or behind a place, the clusters between two borders. No program is in sight. -/
import Derived.Test.YtlbclfmbejjneaaGreatDoorRunes
import Derived.Test.YtlbclfmbejjneaaGreatDoorPlainW
namespace Go.Proofs.YtlbclfmbejjneaaGreatDoor
set_option linter.unusedVariables false
set_option linter.unusedSimpArgs false

/-- the cluster at a place -/
def clAtF (x : Nat) : List (Nat × ByteArray) → Nat → Nat × Nat
  | [], n => (n, n)
  | p :: t, n => if x < p.1 + p.2.size then (p.1, p.1 + p.2.size) else clAtF x t n
def clAt (s : ByteArray) (x : Int) : Nat × Nat := clAtF (min x.toNat s.size) (piecesI s) s.size
/-- the least border that is at least a place -/
def upB (s : ByteArray) (x : Nat) : Nat := if (clAt s x).1 = x then x else (clAt s x).2
/-- what stands between two places of the chain of clusters -/
theorem pieces_mid (s : ByteArray) : ∀ (L : List (Nat × ByteArray)) (a b : Nat), a ≤ s.size → b ≤ s.size → piecesF s s.size a = L ++ piecesF s s.size b →
    a + szs (L.map (·.2)) = b ∧ (∀ p ∈ L, a ≤ p.1 ∧ p.1 < b ∧ p.1 + p.2.size ≤ b ∧ 0 < p.2.size) ∧ (L = [] → a = b)
  | [], a, b, ha, hb, h => by
    have hab : a = b := by
      by_cases h1 : a < s.size
      · rw [List.nil_append, piecesF_cons s a h1] at h
        by_cases h2 : b < s.size
        · rw [piecesF_cons s b h2] at h
          have := (List.cons.inj h).1
          injection this
        · rw [show b = s.size by omega, piecesF_nil] at h; cases h
      · rw [List.nil_append, show a = s.size by omega, piecesF_nil] at h
        by_cases h2 : b < s.size
        · rw [piecesF_cons s b h2] at h; cases h
        · omega
    exact ⟨by simp [szs, hab], (fun p hp => by cases hp), fun _ => hab⟩
  | q :: t, a, b, ha, hb, h => by
    have hlt : a < s.size := by
      by_cases e : a < s.size
      · exact e
      · rw [show a = s.size by omega, piecesF_nil] at h; cases h
    rw [piecesF_cons s a hlt, List.cons_append] at h
    have hz := ext_size s a ha
    have hn := nextI_bd (s.extract a s.size) (by omega)
    obtain ⟨hq, ht⟩ := List.cons.inj h
    obtain ⟨i1, i2, _⟩ := pieces_mid s t _ b (by omega) hb ht
    have hqz : q.2.size = nextI (s.extract a s.size) := by rw [← hq]; simp [ByteArray.size_extract]; omega
    have hq1 : q.1 = a := by rw [← hq]
    refine ⟨by rw [List.map_cons, szs, hqz]; omega, fun p hp => ?_, fun e => by cases e⟩
    rcases List.mem_cons.1 hp with rfl | hp
    · omega
    · have := i2 p hp; omega
theorem bord_ord {s : ByteArray} {a b k m : Nat} (ha : Bord s a k) (hb : Bord s b m) (h : k ≤ m) : ∃ L, piecesF s s.size a = L ++ piecesF s s.size b ∧ L.length = m - k := by
  obtain ⟨a1, pre, a2, a3⟩ := ha
  obtain ⟨b1, qre, b2, b3⟩ := hb
  have he : pre ++ piecesF s s.size a = qre ++ piecesF s s.size b := a2.symm.trans b2
  refine ⟨qre.drop k, ?_, by rw [List.length_drop, b3]⟩
  have h1 := congrArg (List.drop k) he
  rw [List.drop_append_of_le_length (by omega), List.drop_eq_nil_of_le (by omega : pre.length ≤ k), List.nil_append, List.drop_append_of_le_length (by omega)] at h1
  exact h1
theorem bord_le {s : ByteArray} {a b k m : Nat} (ha : Bord s a k) (hb : Bord s b m) (h : k ≤ m) : a ≤ b := by
  obtain ⟨L, h1, _⟩ := bord_ord ha hb h
  have := (pieces_mid s L a b ha.1 hb.1 h1).1
  omega
theorem bord_lt {s : ByteArray} {a b k m : Nat} (ha : Bord s a k) (hb : Bord s b m) (h : a < b) : k < m := by
  by_cases e : k < m
  · exact e
  · have := bord_le hb ha (by omega); omega
theorem bord_eq {s : ByteArray} {a k m : Nat} (ha : Bord s a k) (hb : Bord s a m) : k = m := by
  have key : ∀ {k m : Nat}, Bord s a k → Bord s a m → k ≤ m → k = m := by
    intro k m ha hb h
    obtain ⟨L, h1, h2⟩ := bord_ord ha hb h
    have h3 : L = [] := by
      cases L with
      | nil => rfl
      | cons q t =>
        have := (pieces_mid s _ a a ha.1 hb.1 h1).2.1 q (by simp)
        omega
    rw [h3] at h2
    simp at h2
    omega
  rcases Nat.le_total k m with h | h
  · exact key ha hb h
  · exact (key hb ha h).symm
/-- between a cluster's two borders there is none -/
theorem bord_gap {s : ByteArray} {p c k m : Nat} (hp : Bord s p k) (hc : Bord s c m) (h : p < c) : p + nextI (s.extract p s.size) ≤ c := by
  have hlt : p < s.size := by have := hc.1; omega
  have := bord_lt hp hc h
  exact bord_le (hp.next hlt) hc (by omega)
theorem bord_end (s : ByteArray) : Bord s s.size (piecesI s).length := ⟨Nat.le_refl _, piecesI s, by rw [piecesF_nil, List.append_nil], rfl⟩
theorem clAtF_spec (s : ByteArray) (x : Nat) (hx : x ≤ s.size) : ∀ (f a k : Nat), s.size ≤ a + f → Bord s a k → a ≤ x →
    ∃ k1 k2, Bord s (clAtF x (piecesF s s.size a) s.size).1 k1 ∧ Bord s (clAtF x (piecesF s s.size a) s.size).2 k2 ∧ (clAtF x (piecesF s s.size a) s.size).1 ≤ x ∧ x ≤ (clAtF x (piecesF s s.size a) s.size).2 ∧
      (x < s.size → x < (clAtF x (piecesF s s.size a) s.size).2 ∧ (clAtF x (piecesF s s.size a) s.size).2 = (clAtF x (piecesF s s.size a) s.size).1 + nextI (s.extract (clAtF x (piecesF s s.size a) s.size).1 s.size)) ∧
      (x = s.size → (clAtF x (piecesF s s.size a) s.size).1 = s.size ∧ (clAtF x (piecesF s s.size a) s.size).2 = s.size)
  | 0, a, k, hf, hb, ha => by
    have : a = s.size := by have := hb.1; omega
    subst this
    rw [piecesF_nil, clAtF]
    exact ⟨_, _, bord_end s, bord_end s, ha, hx, fun h => by omega, fun _ => ⟨rfl, rfl⟩⟩
  | f + 1, a, k, hf, hb, ha => by
    by_cases hlt : a < s.size
    · have hz := ext_size s a (by omega)
      have hn := nextI_bd (s.extract a s.size) (by omega)
      have hps : (s.extract a (a + nextI (s.extract a s.size))).size = nextI (s.extract a s.size) := by simp [ByteArray.size_extract]; omega
      rw [piecesF_cons s a hlt, clAtF, hps]
      by_cases h : x < a + nextI (s.extract a s.size)
      · rw [if_pos h]
        exact ⟨_, _, hb, hb.next hlt, ha, by omega, fun _ => ⟨h, rfl⟩, fun e => by omega⟩
      · rw [if_neg h]
        exact clAtF_spec s x hx f _ _ (by omega) (hb.next hlt) (by omega)
    · have : a = s.size := by have := hb.1; omega
      subst this
      rw [piecesF_nil, clAtF]
      exact ⟨_, _, bord_end s, bord_end s, ha, hx, fun h => by omega, fun _ => ⟨rfl, rfl⟩⟩
theorem clAt_spec (s : ByteArray) (x : Int) :
    ∃ k1 k2, Bord s (clAt s x).1 k1 ∧ Bord s (clAt s x).2 k2 ∧ (clAt s x).1 ≤ min x.toNat s.size ∧ min x.toNat s.size ≤ (clAt s x).2 ∧
      (min x.toNat s.size < s.size → min x.toNat s.size < (clAt s x).2 ∧ (clAt s x).2 = (clAt s x).1 + nextI (s.extract (clAt s x).1 s.size)) ∧ (min x.toNat s.size = s.size → (clAt s x).1 = s.size ∧ (clAt s x).2 = s.size) :=
  clAtF_spec s (min x.toNat s.size) (Nat.min_le_right _ _) s.size 0 0 (by omega) (Bord.zero s) (Nat.zero_le _)
theorem upB_spec (s : ByteArray) (x : Nat) (hx : x ≤ s.size) : ∃ k, Bord s (upB s x) k ∧ x ≤ upB s x ∧ ∀ c m, Bord s c m → x ≤ c → upB s x ≤ c := by
  obtain ⟨k1, k2, h1, h2, h3, h4, h5, h6⟩ := clAt_spec s x
  have hm : min (x : Int).toNat s.size = x := by omega
  rw [hm] at h3 h4 h5 h6
  unfold upB
  by_cases e : (clAt s (x : Int)).1 = x
  · rw [if_pos e]
    exact ⟨k1, e ▸ h1, Nat.le_refl _, fun c m _ h => h⟩
  · rw [if_neg e]
    refine ⟨k2, h2, h4, fun c m hc hxc => ?_⟩
    by_cases h : x < s.size
    · rw [(h5 h).2]
      exact bord_gap h1 hc (by omega)
    · have := h6 (by omega)
      omega
theorem upB_mono (s : ByteArray) (x y : Nat) (h : x ≤ y) (hy : y ≤ s.size) : upB s x ≤ upB s y := by
  obtain ⟨_, _, _, h3⟩ := upB_spec s x (by omega)
  obtain ⟨k, h4, h5, _⟩ := upB_spec s y hy
  exact h3 _ _ h4 (by omega)
/-- the clusters of a stretch -/
def inPs (s : ByteArray) (fr tt : Nat) : List (Nat × ByteArray) := (piecesI s).filter (fun p => decide (fr ≤ p.1) && decide (p.1 < tt))
theorem inPs_spec {s : ByteArray} {fr tt k m : Nat} (hf : Bord s fr k) (ht : Bord s tt m) (h : fr ≤ tt) :
    piecesF s s.size fr = inPs s fr tt ++ piecesF s s.size tt ∧ (inPs s fr tt).map (·.2) = (piecesI (s.extract fr tt)).map (·.2) ∧ fr + szs ((inPs s fr tt).map (·.2)) = tt ∧
      (∀ p ∈ inPs s fr tt, fr ≤ p.1 ∧ p.1 + p.2.size ≤ tt ∧ 0 < p.2.size) ∧ ∃ pre, piecesI s = pre ++ inPs s fr tt ++ piecesF s s.size tt ∧ pre.length = k ∧ ∀ p ∈ pre, p.1 < fr := by
  have hkm : k ≤ m := by
    by_cases e : fr = tt
    · subst e; exact Nat.le_of_eq (bord_eq hf ht)
    · exact Nat.le_of_lt (bord_lt hf ht (by omega))
  obtain ⟨L, hL, _⟩ := bord_ord hf ht hkm
  obtain ⟨a1, a2, a3⟩ := pieces_mid s L fr tt hf.1 ht.1 hL
  obtain ⟨hfz, pre, p1, p2⟩ := hf
  obtain ⟨b1, b2, _⟩ := pieces_mid s pre 0 fr (Nat.zero_le _) hfz p1
  have hfil : inPs s fr tt = L := by
    unfold inPs
    rw [p1, hL, List.filter_append, List.filter_append]
    have e1 : pre.filter (fun p => decide (fr ≤ p.1) && decide (p.1 < tt)) = [] := by
      rw [List.filter_eq_nil_iff]
      intro p hp
      have := (b2 p hp).2.1
      simp; omega
    have e2 : L.filter (fun p => decide (fr ≤ p.1) && decide (p.1 < tt)) = L := by
      rw [List.filter_eq_self]
      intro p hp
      have := a2 p hp
      simp; omega
    have e3 : (piecesF s s.size tt).filter (fun p => decide (fr ≤ p.1) && decide (p.1 < tt)) = [] := by
      rw [List.filter_eq_nil_iff]
      intro p hp
      have := (pieces_mid s (piecesF s s.size tt) tt s.size ht.1 (Nat.le_refl _) (by rw [piecesF_nil, List.append_nil])).2.1 p hp
      simp; omega
    rw [e1, e2, e3]
    simp
  have hmap : (piecesF s s.size fr).map (·.2) = L.map (·.2) ++ (piecesF s s.size tt).map (·.2) := by rw [hL, List.map_append]
  obtain ⟨c1, c2, c3, c4⟩ := cut_pieces s fr k ⟨hfz, pre, p1, p2⟩ _ _ hmap
  rw [a1] at c3
  rw [hfil]
  exact ⟨hL, c3.symm, a1, fun p hp => ⟨(a2 p hp).1, (a2 p hp).2.2⟩, pre, by rw [p1, hL, List.append_assoc], p2, fun p hp => (b2 p hp).2.1⟩
end Go.Proofs.YtlbclfmbejjneaaGreatDoor
