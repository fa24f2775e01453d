/- Contract of visual.turn: a stretch of a list is turned round in its place. -/
import Derived.Test.YtbhhebheclfdlaaVisE
import Derived.Test.YtbhhebheclfdlaaPlainTurn
import Derived.RegionTactic
namespace Go.Proofs.Ytbhhebheclfdlaa
set_option linter.unusedVariables false
set_option linter.unusedSimpArgs false
open Go.RowKit

/-- the list of a function's values -/
def listOf (n : Nat) (g : Nat → Int) : List Int := (List.range n).map g
theorem listOf_len (n : Nat) (g : Nat → Int) : (listOf n g).length = n := by unfold listOf; simp
theorem listOf_ith (n : Nat) (g : Nat → Int) (p : Nat) (h : p < n) : ith (listOf n g) p = g p := by
  unfold listOf ith
  rw [List.getD_eq_getElem?_getD, List.getElem?_map, List.getElem?_range h]
  rfl
theorem list_ext {a b : List Int} (hl : a.length = b.length) (h : ∀ p, p < a.length → ith a p = ith b p) : a = b := by
  apply List.ext_getElem hl
  intro i h1 h2
  have := h i h1
  unfold ith at this
  rw [List.getD_eq_getElem?_getD, List.getD_eq_getElem?_getD, List.getElem?_eq_getElem h1, List.getElem?_eq_getElem h2] at this
  exact this
theorem listOf_congr {n : Nat} {g h : Nat → Int} (e : ∀ p, p < n → g p = h p) : listOf n g = listOf n h := by
  unfold listOf
  exact List.map_congr_left fun p hp => e p (List.mem_range.1 hp)
theorem listOf_set (n : Nat) (g : Nat → Int) (i : Nat) (v : Int) (h : i < n) : (listOf n g).set i v = listOf n (fun p => if p = i then v else g p) := by
  refine list_ext (by rw [List.length_set, listOf_len, listOf_len]) fun p hp => ?_
  rw [List.length_set, listOf_len] at hp
  rw [ith_set _ _ _ _ (by rw [listOf_len]; exact h), listOf_ith _ _ _ hp, listOf_ith _ _ _ hp]
  by_cases e : i = p
  · rw [if_pos e, if_pos e.symm]
  · rw [if_neg e, if_neg (fun h => e h.symm)]
/-- k pairs of places of [f, f + m) are changed -/
def swapG (g : Nat → Int) (f m k : Nat) (p : Nat) : Int := if (f ≤ p ∧ p < f + k) ∨ (f + m - k ≤ p ∧ p < f + m) then g (f + (f + m) - 1 - p) else g p
def revG (g : Nat → Int) (f m : Nat) (p : Nat) : Int := if f ≤ p ∧ p < f + m then g (f + (f + m) - 1 - p) else g p
theorem swapG_zero (g : Nat → Int) (f m p : Nat) : swapG g f m 0 p = g p := by
  unfold swapG
  rw [if_neg (by omega)]
theorem swapG_end (g : Nat → Int) (f m k p : Nat) (h : m ≤ 2 * k + 1) (hk : 2 * k ≤ m) : swapG g f m k p = revG g f m p := by
  unfold swapG revG
  by_cases h1 : f ≤ p ∧ p < f + m
  · rw [if_pos h1]
    by_cases h2 : (f ≤ p ∧ p < f + k) ∨ (f + m - k ≤ p ∧ p < f + m)
    · rw [if_pos h2]
    · rw [if_neg h2]
      congr 1
      omega
  · rw [if_neg h1]
    by_cases h2 : (f ≤ p ∧ p < f + k) ∨ (f + m - k ≤ p ∧ p < f + m)
    · omega
    · rw [if_neg h2]
theorem swapG_next (g : Nat → Int) (f m k p : Nat) (h : 2 * k + 1 < m) :
    (if p = f + (m - 1 - k) then g (f + k) else if p = f + k then g (f + (m - 1 - k)) else swapG g f m k p) = swapG g f m (k + 1) p := by
  unfold swapG
  by_cases e1 : p = f + (m - 1 - k)
  · rw [if_pos e1, if_pos (by omega)]
    congr 1; omega
  · rw [if_neg e1]
    by_cases e2 : p = f + k
    · rw [if_pos e2, if_pos (by omega)]
      congr 1; omega
    · rw [if_neg e2]
      by_cases h2 : (f ≤ p ∧ p < f + k) ∨ (f + m - k ≤ p ∧ p < f + m)
      · rw [if_pos h2, if_pos (by omega)]
      · rw [if_neg h2, if_neg (by omega)]
theorem turn_nil (a : Option Addr) (c : Nat) (w : World) : Calls Try.prog 34 #[.slice a 0 c] w fun e w' => e = .returned (.tuple #[]) ∧ w = w' := by
  go_enter Try.func34, Try.ntmps34
  go_wp2_with (fail)
  go_loopw [2, 3] (fun u2 u3 wx => u2 = .int .i64 0 ∧ u3 = .int .i64 (-1) ∧ w = wx) (fun _ _ _ => 0)
  case atStart => exact ⟨rfl, by go_num, rfl⟩
  case round =>
    obtain ⟨rfl, rfl, hwx⟩ := hrel
    subst hwx
    go_wp2_with (fail)
    go_end0
    exact ⟨rfl, rfl⟩
set_option maxRecDepth 100000 in
set_option maxHeartbeats 1000000 in
theorem turn_any (G f m c base N n : Nat) (g : Nat → Int) (w : World) (hO : OutAt .i64 3 w base (some ⟨G, 0, none⟩) N (listOf n g)) (hfm : f + m ≤ n) (hn : n ≤ 2097152) (hmc : m ≤ c) :
    Calls Try.prog 34 #[.slice (some ⟨G, f, none⟩) m c] w fun e w' => e = .returned (.tuple #[]) ∧ OutAt .i64 3 w' base (some ⟨G, 0, none⟩) N (listOf n (revG g f m)) ∧ w.grownBy w' (some G) := by
  have HO := Lib.hid hO
  clear hO
  go_enter Try.func34, Try.ntmps34
  go_wp2_with (fail)
  go_loopw [2, 3] (fun u2 u3 wx => ∃ (k : Nat) (z : Int), u2 = .int .i64 k ∧ u3 = .int .i64 z ∧ z + 1 + k = m ∧ 2 * k ≤ m ∧ OutAt .i64 3 wx base (some ⟨G, 0, none⟩) N (listOf n (swapG g f m k)) ∧ w.grownBy wx (some G)) (fun u2 _ _ => m - (intOf u2).toNat)
  case atStart => exact ⟨0, (m : Int) - 1, rfl, by go_num, by omega, by omega, by rw [listOf_congr (fun p _ => swapG_zero g f m p)]; exact HO.out, World.grownBy.refl _ _⟩
  case round =>
    obtain ⟨k, z, rfl, rfl, hz, hk2, hO, hg⟩ := hrel
    by_cases hlt : 2 * k + 1 < m
    · obtain ⟨b, rfl⟩ : ∃ b : Nat, z = b := ⟨z.toNat, by omega⟩
      have hbe : b = m - 1 - k := by omega
      obtain ⟨_, hG1, _, _, hXa, hFa, _, _⟩ := hO.at (f + k) (by rw [listOf_len]; omega)
      cases hG1
      obtain ⟨_, hG1, _, _, hXb, hFb, _, _⟩ := hO.at (f + b) (by rw [listOf_len]; omega)
      cases hG1
      rw [listOf_ith _ _ _ (by omega)] at hXa hXb
      have ea : swapG g f m k (f + k) = g (f + k) := by unfold swapG; rw [if_neg (by omega)]
      have eb : swapG g f m k (f + b) = g (f + b) := by unfold swapG; rw [if_neg (by omega)]
      rw [ea] at hXa
      rw [eb] at hXb
      obtain ⟨va, hva⟩ : ∃ va, g (f + k) = va := ⟨_, rfl⟩
      obtain ⟨vb, hvb⟩ : ∃ vb, g (f + b) = vb := ⟨_, rfl⟩
      rw [hva] at hXa
      rw [hvb] at hXb
      have hnx : ((listOf n (swapG g f m k)).set (f + k) vb).set (f + b) va = listOf n (swapG g f m (k + 1)) := by
        rw [listOf_set _ _ _ _ (by omega), listOf_set _ _ _ _ (by omega)]
        refine listOf_congr fun p hp => ?_
        rw [← swapG_next g f m k p hlt, ← hva, ← hvb, hbe]
      have hS1 := (hO.set (f + k) vb).set (f + b) va
      rw [hnx] at hS1
      have HS1 := Lib.hid hS1
      have hGs := grown_set (i := f + b) (grown_set (i := f + k) hg (.int .i64 vb)) (.int .i64 va)
      have HGS := Lib.hid hGs
      have gk0 : (0 : Int) ≤ (k : Int) := by omega
      have gk1 : (k : Int) < (m : Int) := by omega
      have gb0 : (0 : Int) ≤ (b : Int) := by omega
      have gb1 : (b : Int) < (m : Int) := by omega
      have gkb : (k : Int) < (b : Int) := by omega
      have hne : f + k ≠ f + b := by omega
      have hne2 : f + b ≠ f + k := by omega
      have hkb1 : k ≠ b := by omega
      have hkb2 : b ≠ k := by omega
      clear ea eb hva hvb hnx hS1 hGs hO hg hbe
      go_wp2_with (fail)
      go_region
      all_goals go_wp2_with (fail)
      go_roundw
      case rel => exact ⟨k + 1, (b : Int) - 1, by go_num, by go_num, by omega, by omega, HS1.out, ⟨HGS.out.os, HGS.out.tape, HGS.out.output, HGS.out.size, HGS.out.block⟩⟩
      case measure => simp [intOf]; omega
    · have hzk : ¬ ((k : Int) < z) := by omega
      rw [listOf_congr (fun p _ => swapG_end g f m k p (by omega) hk2)] at hO
      have HO2 := Lib.hid hO
      have HG := Lib.hid hg
      clear hO hg
      go_wp2_with (fail)
      go_end0
      exact ⟨rfl, HO2.out, HG.out⟩
end Go.Proofs.Ytbhhebheclfdlaa
