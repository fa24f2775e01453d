/- Plain laws of the order: turned it is where each place is seen, and back; what no lesser level parts is seen side by side. -/
import Derived.Test.YtbhhebheclfdlaaVisG
namespace Go.Proofs.Ytbhhebheclfdlaa
set_option linter.unusedVariables false
set_option linter.unusedSimpArgs false
open Go.RowKit

theorem turnF_inv (n : Nat) (f g : Nat → Nat) (hf : ∀ i, i < n → f i < n) (hgf : ∀ i, i < n → g (f i) = i) (hfg : ∀ p, p < n → f (g p) = p) :
    ∀ m i, i + m = n → turnF (listOf n (fun p => (f p : Int))) n m i (listOf n (fun p => if g p < i then ((g p : Int) + 1) else 0)) = some (listOf n (fun p => if g p < n then ((g p : Int) + 1) else 0))
  | 0, i, h => by
    have : i = n := by omega
    subst this
    rfl
  | m + 1, i, h => by
    have hi : i < n := by omega
    have h1 := hf i hi
    have h2 := hgf i hi
    rw [turnF, listOf_ith _ _ _ hi, if_neg (by omega), Int.toNat_natCast, listOf_ith _ _ _ h1, h2, if_neg (by simp)]
    rw [listOf_set _ _ _ _ h1]
    rw [← turnF_inv n f g hf hgf hfg m (i + 1) (by omega)]
    congr 1
    refine listOf_congr fun p hp => ?_
    by_cases e : p = f i
    · rw [if_pos e, e, h2, if_pos (by omega)]
    · rw [if_neg e]
      have hne : g p ≠ i := fun e' => e (by rw [← e', hfg p hp])
      by_cases h3 : g p < i
      · rw [if_pos h3, if_pos (by omega)]
      · rw [if_neg h3, if_neg (by omega)]
theorem turned_inv (n : Nat) (f g : Nat → Nat) (hf : ∀ i, i < n → f i < n) (hg : ∀ p, p < n → g p < n) (hgf : ∀ i, i < n → g (f i) = i) (hfg : ∀ p, p < n → f (g p) = p) :
    turnedI (listOf n (fun p => (f p : Int))) = some (listOf n (fun p => (g p : Int))) := by
  have h := turnF_inv n f g hf hgf hfg n 0 (by omega)
  unfold turnedI
  rw [listOf_len]
  have e0 : List.replicate n (0 : Int) = listOf n (fun p => if g p < 0 then ((g p : Int) + 1) else 0) := by
    refine list_ext (by rw [listOf_len]; simp) fun p hp => ?_
    rw [List.length_replicate] at hp
    rw [listOf_ith _ _ _ hp, if_neg (Nat.not_lt_zero _), rep_zero n p hp]
  rw [e0, h]
  show some ((listOf n _).map _) = _
  congr 1
  unfold listOf
  rw [List.map_map]
  refine List.map_congr_left fun p hp => ?_
  show (if g p < n then ((g p : Int) + 1) else 0) - 1 = _
  rw [if_pos (hg p (List.mem_range.1 hp))]
  omega
theorem lv_top (ls : List Nat) : ∀ n i, i < n → lvF ls i ≤ topF ls n
  | 0, i, h => absurd h (Nat.not_lt_zero _)
  | n + 1, i, h => by
    rw [topF]
    rcases Nat.lt_or_ge i n with h' | h'
    · have := lv_top ls n i h'; omega
    · obtain rfl : i = n := by omega
      omega
/-- which place stands at p, where a place is seen: in the whole -/
def ordN (ls : List Nat) (n p : Nat) : Nat := oF (lvF ls) n 1 (topF ls n) p
def seeN (ls : List Nat) (n k : Nat) : Nat := tF (lvF ls) n 1 (topF ls n) k
theorem order_list (ls : List Nat) (n : Nat) (h : ls.length = n) : orderI ls = listOf n (fun p => (ordN ls n p : Int)) := by
  unfold orderI; rw [h]; rfl
theorem see_turned (ls : List Nat) (n : Nat) (h : ls.length = n) : turnedI (orderI ls) = some (listOf n (fun p => (seeN ls n p : Int))) := by
  rw [order_list ls n h]
  exact turned_inv n (ordN ls n) (seeN ls n) (fun i hi => oF_lt _ _ _ hi) (fun i hi => tF_lt _ _ _ hi) (fun i hi => tF_oF _ _ _ _ _) (fun i hi => oF_tF _ _ _ _ _)
theorem turned_back (ls : List Nat) (n : Nat) (h : ls.length = n) : turnedI (listOf n (fun p => (seeN ls n p : Int))) = some (orderI ls) := by
  rw [order_list ls n h]
  exact turned_inv n (seeN ls n) (ordN ls n) (fun i hi => tF_lt _ _ _ hi) (fun i hi => oF_lt _ _ _ hi) (fun i hi => oF_tF _ _ _ _ _) (fun i hi => tF_oF _ _ _ _ _)
theorem sg_cases (x : Nat) : (x % 2 = 0 ∧ sg x = 1) ∨ (x % 2 = 1 ∧ sg x = -1) := by
  unfold sg
  by_cases h : x % 2 = 0
  · exact .inl ⟨h, if_pos h⟩
  · exact .inr ⟨by omega, if_neg h⟩
/-- where the places of a stretch are seen: an interval, both its ends taken -/
theorem see_span (ls : List Nat) (n x s e : Nat) (h : Str (lvF ls) n x s e) (hse : s < e) : ∃ A : Int, (∀ k, s ≤ k → k < e → A ≤ (seeN ls n k : Int) ∧ (seeN ls n k : Int) ≤ A + ((e : Int) - 1 - s)) ∧
    (∃ k, s ≤ k ∧ k < e ∧ (seeN ls n k : Int) = A) ∧ (∃ k, s ≤ k ∧ k < e ∧ (seeN ls n k : Int) = A + ((e : Int) - 1 - s)) := by
  have hx : x ≤ topF ls n := Nat.le_trans (h.all s (Nat.le_refl _) hse) (lv_top ls n s (by have := h.en; omega))
  obtain ⟨d, hd⟩ := aff_end h hx
  have keep := fun k (h1 : s ≤ k) (h2 : k < e) => tF_keep h (topF ls n - x) (x + 1) k (by omega) h1 h2
  have onto : ∀ q, s ≤ q → q < e → ∃ k, s ≤ k ∧ k < e ∧ tF (lvF ls) n (x + 1) (topF ls n - x) k = q := fun q h1 h2 =>
    ⟨oF (lvF ls) n (x + 1) (topF ls n - x) q, (oF_keep h _ _ q (by omega) h1 h2).1, (oF_keep h _ _ q (by omega) h1 h2).2, tF_oF _ _ _ _ _⟩
  obtain ⟨k1, a1, a2, a3⟩ := onto s (Nat.le_refl _) hse
  obtain ⟨k2, b1, b2, b3⟩ := onto (e - 1) (by omega) (by omega)
  rcases sg_cases x with ⟨_, hs⟩ | ⟨_, hs⟩
  · refine ⟨s + d, fun k h1 h2 => ?_, ⟨k1, a1, a2, ?_⟩, ⟨k2, b1, b2, ?_⟩⟩
    · have := hd k h1 h2
      have := keep k h1 h2
      unfold seeN
      rw [hs] at *
      omega
    · have := hd k1 a1 a2
      unfold seeN
      rw [hs, a3] at this
      omega
    · have := hd k2 b1 b2
      unfold seeN
      rw [hs, b3] at this
      omega
  · refine ⟨d - ((e : Int) - 1), fun k h1 h2 => ?_, ⟨k2, b1, b2, ?_⟩, ⟨k1, a1, a2, ?_⟩⟩
    · have := hd k h1 h2
      have := keep k h1 h2
      unfold seeN
      rw [hs] at *
      omega
    · have := hd k2 b1 b2
      unfold seeN
      rw [hs, b3] at this
      omega
    · have := hd k1 a1 a2
      unfold seeN
      rw [hs, a3] at this
      omega
/-- where all have one level: one behind the other -/
theorem see_next (ls : List Nat) (n x s e k : Nat) (h : Str (lvF ls) n x s e) (ha : ∀ q, s ≤ q → q < e → lvF ls q = x) (h1 : s ≤ k) (h2 : k + 1 < e) :
    (seeN ls n (k + 1) : Int) = (seeN ls n k : Int) + sg x := by
  have hx : x ≤ topF ls n := Nat.le_trans (h.all s (Nat.le_refl _) (by omega)) (lv_top ls n s (by have := h.en; omega))
  obtain ⟨d, hd⟩ := aff_end h hx
  have e1 := hd k h1 (by omega)
  have e2 := hd (k + 1) (by omega) h2
  rw [tF_low (topF ls n - x) (x + 1) k (fun z hz => by rw [ha k h1 (by omega)]; omega)] at e1
  rw [tF_low (topF ls n - x) (x + 1) (k + 1) (fun z hz => by rw [ha (k + 1) (by omega) h2]; omega)] at e2
  unfold seeN
  rcases sg_cases x with ⟨_, hs⟩ | ⟨_, hs⟩
  · rw [hs] at e1 e2 ⊢
    omega
  · rw [hs] at e1 e2 ⊢
    omega
end Go.Proofs.Ytbhhebheclfdlaa
