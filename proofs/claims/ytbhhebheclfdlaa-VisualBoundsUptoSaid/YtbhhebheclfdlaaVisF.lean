/- Contract of visual.turn: a stretch of a list is turned round in its place. -/
import Derived.Test.YtbhhebheclfdlaaLib
import Derived.Test.YtbhhebheclfdlaaVisE
import Derived.RegionTactic
namespace Go.Proofs.Ytbhhebheclfdlaa
set_option linter.unusedVariables false
set_option linter.unusedSimpArgs false

/-- the start of the stretch with at least level x that ends ahead of p -/
def loF (lv : Nat → Nat) (x : Nat) : Nat → Nat
  | 0 => 0
  | p + 1 => if x ≤ lv p then loF lv x p else p + 1
/-- the end of the stretch that goes on at p, m places being looked at -/
def hiF (lv : Nat → Nat) (x : Nat) : Nat → Nat → Nat
  | 0, p => p
  | m + 1, p => if x ≤ lv p then hiF lv x m (p + 1) else p
def revI (lv : Nat → Nat) (n x p : Nat) : Nat := if p < n ∧ x ≤ lv p then loF lv x p + hiF lv x (n - p) p - 1 - p else p
/-- [s, e) is a stretch of places with at least level x, and none longer -/
structure Str (lv : Nat → Nat) (n x s e : Nat) : Prop where
  se : s ≤ e
  en : e ≤ n
  all : ∀ q, s ≤ q → q < e → x ≤ lv q
  left : s = 0 ∨ lv (s - 1) < x
  right : e = n ∨ lv e < x
theorem lo_of {lv : Nat → Nat} {x s : Nat} (hl : s = 0 ∨ lv (s - 1) < x) : ∀ d, (∀ q, s ≤ q → q < s + d → x ≤ lv q) → loF lv x (s + d) = s
  | 0, _ => by
    cases s with
    | zero => rfl
    | succ s =>
      show (if x ≤ lv s then loF lv x s else s + 1) = s + 1
      rw [if_neg]
      rcases hl with h | h
      · cases h
      · rw [Nat.add_sub_cancel] at h; omega
  | d + 1, h => by
    show (if x ≤ lv (s + d) then loF lv x (s + d) else s + d + 1) = s
    rw [if_pos (h (s + d) (by omega) (by omega))]
    exact lo_of hl d (fun q h1 h2 => h q h1 (by omega))
theorem hi_of {lv : Nat → Nat} {x e : Nat} : ∀ m p, p ≤ e → e ≤ p + m → (∀ q, p ≤ q → q < e → x ≤ lv q) → (e = p + m ∨ lv e < x) → hiF lv x m p = e
  | 0, p, h1, h2, _, _ => by show p = e; omega
  | m + 1, p, h1, h2, h3, h4 => by
    show (if x ≤ lv p then hiF lv x m (p + 1) else p) = e
    by_cases h : p = e
    · subst h
      rw [if_neg]
      rcases h4 with h | h <;> omega
    · rw [if_pos (h3 p (by omega) (by omega))]
      exact hi_of m (p + 1) (by omega) (by omega) (fun q h1 h2 => h3 q (by omega) h2) (by rcases h4 with h | h; exact .inl (by omega); exact .inr h)
theorem lo_str (lv : Nat → Nat) (x : Nat) : ∀ p, loF lv x p ≤ p ∧ (∀ q, loF lv x p ≤ q → q < p → x ≤ lv q) ∧ (loF lv x p = 0 ∨ lv (loF lv x p - 1) < x)
  | 0 => ⟨Nat.le_refl _, fun q h1 h2 => absurd h2 (by omega), .inl rfl⟩
  | p + 1 => by
    obtain ⟨h1, h2, h3⟩ := lo_str lv x p
    unfold loF
    by_cases h : x ≤ lv p
    · rw [if_pos h]
      exact ⟨by omega, fun q a b => by
        by_cases hq : q = p
        · subst hq; exact h
        · exact h2 q a (by omega), h3⟩
    · rw [if_neg h]
      exact ⟨Nat.le_refl _, fun q a b => absurd b (by omega), .inr (by rw [Nat.add_sub_cancel]; omega)⟩
theorem hi_str (lv : Nat → Nat) (x : Nat) : ∀ m p, p ≤ hiF lv x m p ∧ hiF lv x m p ≤ p + m ∧ (∀ q, p ≤ q → q < hiF lv x m p → x ≤ lv q) ∧ (hiF lv x m p = p + m ∨ lv (hiF lv x m p) < x)
  | 0, p => ⟨Nat.le_refl _, Nat.le_refl _, fun q h1 h2 => absurd h2 (by unfold hiF; omega), .inl rfl⟩
  | m + 1, p => by
    obtain ⟨h1, h2, h3, h4⟩ := hi_str lv x m (p + 1)
    unfold hiF
    by_cases h : x ≤ lv p
    · rw [if_pos h]
      exact ⟨by omega, by omega, fun q a b => by
        by_cases hq : q = p
        · subst hq; exact h
        · exact h3 q (by omega) b, by rcases h4 with h4 | h4; exact .inl (by omega); exact .inr h4⟩
    · rw [if_neg h]
      exact ⟨Nat.le_refl _, by omega, fun q a b => absurd b (by omega), .inr (by omega)⟩
theorem str_at {lv : Nat → Nat} {n x p : Nat} (hp : p < n) (hx : x ≤ lv p) : ∃ s e, Str lv n x s e ∧ s ≤ p ∧ p < e := by
  obtain ⟨a1, a2, a3⟩ := lo_str lv x p
  obtain ⟨b1, b2, b3, b4⟩ := hi_str lv x (n - p) p
  refine ⟨loF lv x p, hiF lv x (n - p) p, ⟨by omega, by omega, fun q h1 h2 => ?_, a3, ?_⟩, a1, ?_⟩
  · by_cases h : q < p
    · exact a2 q h1 h
    · exact b3 q (by omega) h2
  · rcases b4 with h | h
    · exact .inl (by omega)
    · exact .inr h
  · by_cases h : hiF lv x (n - p) p = p
    · rcases b4 with h' | h'
      · omega
      · rw [h] at h'; omega
    · omega
theorem rev_str {lv : Nat → Nat} {n x s e p : Nat} (h : Str lv n x s e) (h1 : s ≤ p) (h2 : p < e) : revI lv n x p = s + e - 1 - p := by
  have hlo : loF lv x p = s := by
    have := lo_of (lv := lv) h.left (p - s) (fun q a b => h.all q a (by omega))
    rwa [show s + (p - s) = p by omega] at this
  have hhi : hiF lv x (n - p) p = e := hi_of (n - p) p (by omega) (by have := h.en; omega) (fun q a b => h.all q (by omega) b) (by
    rcases h.right with r | r
    · exact .inl (by have := h.en; omega)
    · exact .inr r)
  unfold revI
  rw [if_pos ⟨by have := h.en; omega, h.all p h1 h2⟩, hlo, hhi]
theorem rev_out {lv : Nat → Nat} {n x p : Nat} (h : ¬ (p < n ∧ x ≤ lv p)) : revI lv n x p = p := if_neg h
theorem rev_in {lv : Nat → Nat} {n x s e p : Nat} (h : Str lv n x s e) (h1 : s ≤ p) (h2 : p < e) : s ≤ revI lv n x p ∧ revI lv n x p < e := by
  rw [rev_str h h1 h2]; omega
theorem rev_rev (lv : Nat → Nat) (n x p : Nat) : revI lv n x (revI lv n x p) = p := by
  by_cases h : p < n ∧ x ≤ lv p
  · obtain ⟨s, e, hs, h1, h2⟩ := str_at h.1 h.2
    have hi := rev_in hs h1 h2
    rw [rev_str hs hi.1 hi.2, rev_str hs h1 h2]
    omega
  · rw [rev_out h, rev_out h]
theorem rev_lt {lv : Nat → Nat} {n x p : Nat} (hp : p < n) : revI lv n x p < n := by
  by_cases h : p < n ∧ x ≤ lv p
  · obtain ⟨s, e, hs, h1, h2⟩ := str_at h.1 h.2
    have hi := rev_in hs h1 h2
    have := hs.en
    omega
  · rw [rev_out h]; exact hp
/-- at each level that is no greater the place and its mirror are alike -/
theorem rev_lv {lv : Nat → Nat} {n x y p : Nat} (hy : y ≤ x) : (y ≤ lv (revI lv n x p)) ↔ y ≤ lv p := by
  by_cases h : p < n ∧ x ≤ lv p
  · obtain ⟨s, e, hs, h1, h2⟩ := str_at h.1 h.2
    have hi := rev_in hs h1 h2
    have a := hs.all _ hi.1 hi.2
    have b := hs.all _ h1 h2
    omega
  · rw [rev_out h]
/-- d levels from x up are turned: which place stands at p -/
def oF (lv : Nat → Nat) (n : Nat) : Nat → Nat → Nat → Nat
  | _, 0, p => p
  | x, d + 1, p => oF lv n (x + 1) d (revI lv n x p)
/-- .. and where a place is seen -/
def tF (lv : Nat → Nat) (n : Nat) : Nat → Nat → Nat → Nat
  | _, 0, k => k
  | x, d + 1, k => revI lv n x (tF lv n (x + 1) d k)
theorem oF_tF (lv : Nat → Nat) (n : Nat) : ∀ d x k, oF lv n x d (tF lv n x d k) = k
  | 0, _, _ => rfl
  | d + 1, x, k => by show oF lv n (x + 1) d (revI lv n x (revI lv n x (tF lv n (x + 1) d k))) = k; rw [rev_rev, oF_tF lv n d (x + 1) k]
theorem tF_oF (lv : Nat → Nat) (n : Nat) : ∀ d x p, tF lv n x d (oF lv n x d p) = p
  | 0, _, _ => rfl
  | d + 1, x, p => by show revI lv n x (tF lv n (x + 1) d (oF lv n (x + 1) d (revI lv n x p))) = p; rw [tF_oF lv n d (x + 1), rev_rev]
theorem tF_lt {lv : Nat → Nat} {n : Nat} : ∀ d x k, k < n → tF lv n x d k < n
  | 0, _, _, h => h
  | d + 1, x, k, h => rev_lt (tF_lt d (x + 1) k h)
theorem oF_lt {lv : Nat → Nat} {n : Nat} : ∀ d x p, p < n → oF lv n x d p < n
  | 0, _, _, h => h
  | d + 1, x, p, h => oF_lt d (x + 1) _ (rev_lt h)
theorem oF_lv {lv : Nat → Nat} {n y : Nat} : ∀ d x p, y ≤ x → ((y ≤ lv (oF lv n x d p)) ↔ y ≤ lv p)
  | 0, _, _, _ => Iff.rfl
  | d + 1, x, p, h => (oF_lv d (x + 1) _ (by omega)).trans (rev_lv h)
/-- a stretch of a lesser level is kept -/
theorem rev_keep {lv : Nat → Nat} {n x y s e p : Nat} (h : Str lv n x s e) (hy : x ≤ y) (h1 : s ≤ p) (h2 : p < e) : s ≤ revI lv n y p ∧ revI lv n y p < e := by
  by_cases hp : p < n ∧ y ≤ lv p
  · obtain ⟨s', e', hs, a, b⟩ := str_at hp.1 hp.2
    have hi := rev_in hs a b
    have c1 : s ≤ s' := by
      by_cases c : s ≤ s'
      · exact c
      · rcases h.left with l | l
        · omega
        · have := hs.all (s - 1) (by omega) (by omega); omega
    have c2 : e' ≤ e := by
      by_cases c : e' ≤ e
      · exact c
      · rcases h.right with l | l
        · have := hs.en; omega
        · have := hs.all e (by omega) (by omega); omega
    omega
  · rw [rev_out hp]; exact ⟨h1, h2⟩
theorem tF_keep {lv : Nat → Nat} {n x s e : Nat} (h : Str lv n x s e) : ∀ d y p, x ≤ y → s ≤ p → p < e → s ≤ tF lv n y d p ∧ tF lv n y d p < e
  | 0, _, _, _, h1, h2 => ⟨h1, h2⟩
  | d + 1, y, p, hy, h1, h2 => by
    have := tF_keep h d (y + 1) p (by omega) h1 h2
    exact rev_keep h hy this.1 this.2
theorem oF_keep {lv : Nat → Nat} {n x s e : Nat} (h : Str lv n x s e) : ∀ d y p, x ≤ y → s ≤ p → p < e → s ≤ oF lv n y d p ∧ oF lv n y d p < e
  | 0, _, _, _, h1, h2 => ⟨h1, h2⟩
  | d + 1, y, p, hy, h1, h2 => by
    have := rev_keep h hy h1 h2
    exact oF_keep h d (y + 1) _ (by omega) this.1 this.2
theorem tF_low {lv : Nat → Nat} {n : Nat} : ∀ d y k, (∀ z, y ≤ z → lv k < z) → tF lv n y d k = k
  | 0, _, _, _ => rfl
  | d + 1, y, k, h => by
    show revI lv n y (tF lv n (y + 1) d k) = k
    rw [tF_low d (y + 1) k (fun z hz => h z (by omega))]
    exact rev_out (fun c => by have := h y (Nat.le_refl _); omega)
def sg (j : Nat) : Int := if j % 2 = 0 then 1 else -1
theorem sg_succ (j : Nat) : sg (j + 1) = - sg j := by
  rcases Nat.mod_two_eq_zero_or_one j with h | h
  · have h2 : (j + 1) % 2 = 1 := by omega
    simp [sg, h, h2]
  · have h2 : (j + 1) % 2 = 0 := by omega
    simp [sg, h, h2]
/-- the places of a stretch at level x, turned at j levels from x down: seen one behind the other, in the one or the other direction -/
theorem aff {lv : Nat → Nat} {n g x s e : Nat} (h : Str lv n x s e) (hg : x ≤ g) : ∀ j, j ≤ x → ∃ (d : Int) (s' e' : Nat), e' ≤ n ∧ (∀ q, s' ≤ q → q < e' → x - j ≤ lv q) ∧
    ∀ k, s ≤ k → k < e → (s' ≤ tF lv n (x + 1 - j) (g - x + j) k ∧ tF lv n (x + 1 - j) (g - x + j) k < e') ∧ ((tF lv n (x + 1 - j) (g - x + j) k : Nat) : Int) = sg j * (tF lv n (x + 1) (g - x) k : Nat) + d
  | 0, _ => ⟨0, s, e, h.en, fun q a b => h.all q a b, fun k a b => ⟨tF_keep h (g - x) (x + 1) k (by omega) a b, by simp [sg]⟩⟩
  | j + 1, hj => by
    obtain ⟨d, s', e', hen, hall, hk⟩ := aff h hg j (by omega)
    by_cases hne : s < e
    · obtain ⟨s2, e2, hs2, a1, a2⟩ := str_at (lv := lv) (n := n) (x := x - j) (p := tF lv n (x + 1 - j) (g - x + j) s) (by have := (hk s (Nat.le_refl _) hne).1; omega) (hall _ (hk s (Nat.le_refl _) hne).1.1 (hk s (Nat.le_refl _) hne).1.2)
      have hsub : s2 ≤ s' ∧ e' ≤ e2 := by
        have hin := (hk s (Nat.le_refl _) hne).1
        constructor
        · by_cases c : s2 ≤ s'
          · exact c
          · rcases hs2.left with l | l
            · omega
            · have := hall (s2 - 1) (by omega) (by omega); omega
        · by_cases c : e' ≤ e2
          · exact c
          · rcases hs2.right with l | l
            · omega
            · have := hall e2 (by omega) (by omega); omega
      refine ⟨((s2 + e2 - 1 : Nat) : Int) - d, s2, e2, hs2.en, fun q a b => by have := hs2.all q a b; omega, fun k a b => ?_⟩
      have hin := hk k a b
      have hstep : tF lv n (x + 1 - (j + 1)) (g - x + (j + 1)) k = revI lv n (x - j) (tF lv n (x + 1 - j) (g - x + j) k) := by
        rw [show g - x + (j + 1) = (g - x + j) + 1 by omega, show x + 1 - (j + 1) = x - j by omega]
        show revI lv n (x - j) (tF lv n (x - j + 1) (g - x + j) k) = _
        rw [show x - j + 1 = x + 1 - j by omega]
      rw [hstep]
      have hr := rev_in hs2 (p := tF lv n (x + 1 - j) (g - x + j) k) (by omega) (by omega)
      refine ⟨hr, ?_⟩
      rw [rev_str hs2 (by omega) (by omega), sg_succ, Int.neg_mul]
      have := hin.2
      omega
    · exact ⟨0, s, e, h.en, fun q a b => by have := h.all q a b; omega, fun k a b => absurd b (by omega)⟩
/-- where the places of a stretch are seen at the end -/
theorem aff_end {lv : Nat → Nat} {n g x s e : Nat} (h : Str lv n x s e) (hg : x ≤ g) : ∃ d : Int, ∀ k, s ≤ k → k < e → ((tF lv n 1 g k : Nat) : Int) = sg x * (tF lv n (x + 1) (g - x) k : Nat) + d := by
  obtain ⟨d, s', e', _, _, hk⟩ := aff h hg x (Nat.le_refl _)
  refine ⟨d, fun k a b => ?_⟩
  have := (hk k a b).2
  rw [show x + 1 - x = 1 by omega, show g - x + x = g by omega] at this
  exact this
end Go.Proofs.Ytbhhebheclfdlaa

/-! Contract of visual.turn: a stretch of a list is turned round in its place. -/
namespace Go.Proofs.Ytbhhebheclfdlaa
set_option linter.unusedVariables false
set_option linter.unusedSimpArgs false
open Go.RowKit

/-- the list of a function's values -/
def listOf (n : Nat) (g : Nat → Int) : List Int := (List.range n).map g
theorem listOf_len (n : Nat) (g : Nat → Int) : (listOf n g).length = n := by unfold listOf; simp
theorem listOf_ith (n : Nat) (g : Nat → Int) (p : Nat) (h : p < n) : ith (listOf n g) p = g p := by
  unfold listOf ith
  rw [List.getD_eq_getElem?_getD, List.getElem?_map, List.getElem?_range h]
  rfl
theorem list_ext {a b : List Int} (hl : a.length = b.length) (h : ∀ p, p < a.length → ith a p = ith b p) : a = b := by
  apply List.ext_getElem hl
  intro i h1 h2
  have := h i h1
  unfold ith at this
  rw [List.getD_eq_getElem?_getD, List.getD_eq_getElem?_getD, List.getElem?_eq_getElem h1, List.getElem?_eq_getElem h2] at this
  exact this
theorem listOf_congr {n : Nat} {g h : Nat → Int} (e : ∀ p, p < n → g p = h p) : listOf n g = listOf n h := by
  unfold listOf
  exact List.map_congr_left fun p hp => e p (List.mem_range.1 hp)
theorem listOf_set (n : Nat) (g : Nat → Int) (i : Nat) (v : Int) (h : i < n) : (listOf n g).set i v = listOf n (fun p => if p = i then v else g p) := by
  refine list_ext (by rw [List.length_set, listOf_len, listOf_len]) fun p hp => ?_
  rw [List.length_set, listOf_len] at hp
  rw [ith_set _ _ _ _ (by rw [listOf_len]; exact h), listOf_ith _ _ _ hp, listOf_ith _ _ _ hp]
  by_cases e : i = p
  · rw [if_pos e, if_pos e.symm]
  · rw [if_neg e, if_neg (fun h => e h.symm)]
/-- k pairs of places of [f, f + m) are changed -/
def swapG (g : Nat → Int) (f m k : Nat) (p : Nat) : Int := if (f ≤ p ∧ p < f + k) ∨ (f + m - k ≤ p ∧ p < f + m) then g (f + (f + m) - 1 - p) else g p
def revG (g : Nat → Int) (f m : Nat) (p : Nat) : Int := if f ≤ p ∧ p < f + m then g (f + (f + m) - 1 - p) else g p
theorem swapG_zero (g : Nat → Int) (f m p : Nat) : swapG g f m 0 p = g p := by
  unfold swapG
  rw [if_neg (by omega)]
theorem swapG_end (g : Nat → Int) (f m k p : Nat) (h : m ≤ 2 * k + 1) (hk : 2 * k ≤ m) : swapG g f m k p = revG g f m p := by
  unfold swapG revG
  by_cases h1 : f ≤ p ∧ p < f + m
  · rw [if_pos h1]
    by_cases h2 : (f ≤ p ∧ p < f + k) ∨ (f + m - k ≤ p ∧ p < f + m)
    · rw [if_pos h2]
    · rw [if_neg h2]
      congr 1
      omega
  · rw [if_neg h1]
    by_cases h2 : (f ≤ p ∧ p < f + k) ∨ (f + m - k ≤ p ∧ p < f + m)
    · omega
    · rw [if_neg h2]
theorem swapG_next (g : Nat → Int) (f m k p : Nat) (h : 2 * k + 1 < m) :
    (if p = f + (m - 1 - k) then g (f + k) else if p = f + k then g (f + (m - 1 - k)) else swapG g f m k p) = swapG g f m (k + 1) p := by
  unfold swapG
  by_cases e1 : p = f + (m - 1 - k)
  · rw [if_pos e1, if_pos (by omega)]
    congr 1; omega
  · rw [if_neg e1]
    by_cases e2 : p = f + k
    · rw [if_pos e2, if_pos (by omega)]
      congr 1; omega
    · rw [if_neg e2]
      by_cases h2 : (f ≤ p ∧ p < f + k) ∨ (f + m - k ≤ p ∧ p < f + m)
      · rw [if_pos h2, if_pos (by omega)]
      · rw [if_neg h2, if_neg (by omega)]
theorem turn_nil (a : Option Addr) (c : Nat) (w : World) : Calls Try.prog 34 #[.slice a 0 c] w fun e w' => e = .returned (.tuple #[]) ∧ w = w' := by
  go_enter Try.func34, Try.ntmps34
  go_wp2_with (fail)
  go_loopw [2, 3] (fun u2 u3 wx => u2 = .int .i64 0 ∧ u3 = .int .i64 (-1) ∧ w = wx) (fun _ _ _ => 0)
  case atStart => exact ⟨rfl, by go_num, rfl⟩
  case round =>
    obtain ⟨rfl, rfl, hwx⟩ := hrel
    subst hwx
    go_wp2_with (fail)
    go_end0
    exact ⟨rfl, rfl⟩
set_option maxRecDepth 100000 in
set_option maxHeartbeats 1000000 in
theorem turn_any (G f m c base N n : Nat) (g : Nat → Int) (w : World) (hO : OutAt .i64 3 w base (some ⟨G, 0, none⟩) N (listOf n g)) (hfm : f + m ≤ n) (hn : n ≤ 2097152) (hmc : m ≤ c) :
    Calls Try.prog 34 #[.slice (some ⟨G, f, none⟩) m c] w fun e w' => e = .returned (.tuple #[]) ∧ OutAt .i64 3 w' base (some ⟨G, 0, none⟩) N (listOf n (revG g f m)) ∧ w.grownBy w' (some G) := by
  have HO := Lib.hid hO
  clear hO
  go_enter Try.func34, Try.ntmps34
  go_wp2_with (fail)
  go_loopw [2, 3] (fun u2 u3 wx => ∃ (k : Nat) (z : Int), u2 = .int .i64 k ∧ u3 = .int .i64 z ∧ z + 1 + k = m ∧ 2 * k ≤ m ∧ OutAt .i64 3 wx base (some ⟨G, 0, none⟩) N (listOf n (swapG g f m k)) ∧ w.grownBy wx (some G)) (fun u2 _ _ => m - (intOf u2).toNat)
  case atStart => exact ⟨0, (m : Int) - 1, rfl, by go_num, by omega, by omega, by rw [listOf_congr (fun p _ => swapG_zero g f m p)]; exact HO.out, World.grownBy.refl _ _⟩
  case round =>
    obtain ⟨k, z, rfl, rfl, hz, hk2, hO, hg⟩ := hrel
    by_cases hlt : 2 * k + 1 < m
    · obtain ⟨b, rfl⟩ : ∃ b : Nat, z = b := ⟨z.toNat, by omega⟩
      have hbe : b = m - 1 - k := by omega
      obtain ⟨_, hG1, _, _, hXa, hFa, _, _⟩ := hO.at (f + k) (by rw [listOf_len]; omega)
      cases hG1
      obtain ⟨_, hG1, _, _, hXb, hFb, _, _⟩ := hO.at (f + b) (by rw [listOf_len]; omega)
      cases hG1
      rw [listOf_ith _ _ _ (by omega)] at hXa hXb
      have ea : swapG g f m k (f + k) = g (f + k) := by unfold swapG; rw [if_neg (by omega)]
      have eb : swapG g f m k (f + b) = g (f + b) := by unfold swapG; rw [if_neg (by omega)]
      rw [ea] at hXa
      rw [eb] at hXb
      obtain ⟨va, hva⟩ : ∃ va, g (f + k) = va := ⟨_, rfl⟩
      obtain ⟨vb, hvb⟩ : ∃ vb, g (f + b) = vb := ⟨_, rfl⟩
      rw [hva] at hXa
      rw [hvb] at hXb
      have hnx : ((listOf n (swapG g f m k)).set (f + k) vb).set (f + b) va = listOf n (swapG g f m (k + 1)) := by
        rw [listOf_set _ _ _ _ (by omega), listOf_set _ _ _ _ (by omega)]
        refine listOf_congr fun p hp => ?_
        rw [← swapG_next g f m k p hlt, ← hva, ← hvb, hbe]
      have hS1 := (hO.set (f + k) vb).set (f + b) va
      rw [hnx] at hS1
      have HS1 := Lib.hid hS1
      have hGs := grown_set (i := f + b) (grown_set (i := f + k) hg (.int .i64 vb)) (.int .i64 va)
      have HGS := Lib.hid hGs
      have gk0 : (0 : Int) ≤ (k : Int) := by omega
      have gk1 : (k : Int) < (m : Int) := by omega
      have gb0 : (0 : Int) ≤ (b : Int) := by omega
      have gb1 : (b : Int) < (m : Int) := by omega
      have gkb : (k : Int) < (b : Int) := by omega
      have hne : f + k ≠ f + b := by omega
      have hne2 : f + b ≠ f + k := by omega
      have hkb1 : k ≠ b := by omega
      have hkb2 : b ≠ k := by omega
      clear ea eb hva hvb hnx hS1 hGs hO hg hbe
      go_wp2_with (fail)
      go_region
      all_goals go_wp2_with (fail)
      go_roundw
      case rel => exact ⟨k + 1, (b : Int) - 1, by go_num, by go_num, by omega, by omega, HS1.out, ⟨HGS.out.os, HGS.out.tape, HGS.out.output, HGS.out.size, HGS.out.block⟩⟩
      case measure => simp [intOf]; omega
    · have hzk : ¬ ((k : Int) < z) := by omega
      rw [listOf_congr (fun p _ => swapG_end g f m k p (by omega) hk2)] at hO
      have HO2 := Lib.hid hO
      have HG := Lib.hid hg
      clear hO hg
      go_wp2_with (fail)
      go_end0
      exact ⟨rfl, HO2.out, HG.out⟩
end Go.Proofs.Ytbhhebheclfdlaa
