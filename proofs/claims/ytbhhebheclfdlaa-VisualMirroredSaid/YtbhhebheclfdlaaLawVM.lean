/- The law VisualMirrored of layer 10: at any character and level it answers true, and nothing that was there changes. -/
import Derived.Test.YtbhhebheclfdlaaWake
namespace Go.Proofs.Ytbhhebheclfdlaa
set_option linter.unusedVariables false
set_option linter.unusedSimpArgs false
open Go.RowKit

def kx (k : Nat) : Nat := if k % 2 = 0 then k + 1 else k - 1
theorem pair_hit2 : ∀ k, k < 30 → pairI (ith brL k) = (ith brL (kx k), decide (k % 2 = 0), true) ∧ kx k < 30 ∧ bits .xor .i64 (k : Int) 1 = (kx k : Int) := by decide +kernel
def mirL : List Int := [60, 62, 171, 187, 8249, 8250, 8804, 8805, 65308, 65310]
def otherF (l : List Int) (r : Int) : Nat → Nat → Int × Bool
  | 0, _ => (0, false)
  | m + 1, i => if ith l i = r then (ith l (kx i), true) else otherF l r m (i + 1)
theorem other_br (r : Int) : ∀ m i, i + m = 30 → (∀ j, j < i → ith brL j ≠ r) → otherF brL r m i = ((pairI r).1, (pairI r).2.2)
  | 0, i, h, hm => by rw [otherF, pairI_miss r (fun j hj => hm j (by omega))]
  | m + 1, i, h, hm => by
    rw [otherF]
    by_cases e : ith brL i = r
    · rw [if_pos e]
      have := (pair_hit2 i (by omega)).1
      rw [e] at this
      rw [this]
    · rw [if_neg e]
      refine other_br r m (i + 1) (by omega) fun j hj => ?_
      by_cases h' : j = i
      · subst h'; exact e
      · exact hm j (by omega)
theorem other_none (l : List Int) (r : Int) : ∀ m i, (∀ j, i ≤ j → j < i + m → ith l j ≠ r) → otherF l r m i = (0, false)
  | 0, i, h => rfl
  | m + 1, i, h => by
    rw [otherF, if_neg (h i (Nat.le_refl _) (by omega))]
    exact other_none l r m (i + 1) fun j h1 h2 => h j (by omega) (by omega)
theorem mirror02 (r : Int) : mirrorI r = if (otherF brL r 30 0).2 = true then (otherF brL r 30 0).1 else if (otherF mirL r 10 0).2 = true then (otherF mirL r 10 0).1 else r := by
  by_cases h60 : r = 60
  · subst h60; decide +kernel
  by_cases h62 : r = 62
  · subst h62; decide +kernel
  by_cases h171 : r = 171
  · subst h171; decide +kernel
  by_cases h187 : r = 187
  · subst h187; decide +kernel
  by_cases h8249 : r = 8249
  · subst h8249; decide +kernel
  by_cases h8250 : r = 8250
  · subst h8250; decide +kernel
  by_cases h8804 : r = 8804
  · subst h8804; decide +kernel
  by_cases h8805 : r = 8805
  · subst h8805; decide +kernel
  by_cases h65308 : r = 65308
  · subst h65308; decide +kernel
  by_cases h65310 : r = 65310
  · subst h65310; decide +kernel
  have hn : otherF mirL r 10 0 = (0, false) := other_none mirL r 10 0 fun j _ hj e => by
    have : ∀ k : Fin 10, ith mirL k = 60 ∨ ith mirL k = 62 ∨ ith mirL k = 171 ∨ ith mirL k = 187 ∨ ith mirL k = 8249 ∨ ith mirL k = 8250 ∨ ith mirL k = 8804 ∨ ith mirL k = 8805 ∨ ith mirL k = 65308 ∨ ith mirL k = 65310 := by decide
    have := this ⟨j, by omega⟩
    simp only [e] at this
    omega
  rw [other_br r 30 0 rfl (fun j hj => absurd hj (by omega)), hn]
  unfold mirrorI
  by_cases h : (pairI r).2.2 = true
  · rw [if_pos h, if_pos h]
  · rw [if_neg h, if_neg h, if_neg (by omega), if_neg (by omega), if_neg (by omega), if_neg (by omega), if_neg (by omega), if_neg (by omega), if_neg (by decide)]
set_option maxRecDepth 100000 in
set_option maxHeartbeats 1000000 in
theorem other_any (a : Option Addr) (l : List Int) (n c : Nat) (r : Int) (w : World) (hl : l.length = n) (hd : Rd .i32 w a l) (hn : n ≤ 30) (hev : n % 2 = 0) :
    Calls Try.prog 44 #[.slice a n c, .int .i32 r] w fun e w' => e = .returned (.tuple #[.int .i32 (otherF l r n 0).1, .bool (otherF l r n 0).2]) ∧ w = w' := by
  have HL := Lib.hid hl
  obtain ⟨R, hR⟩ : ∃ R, otherF l r n 0 = R := ⟨_, rfl⟩
  rw [hR]
  have HR := Lib.hid hR
  clear hl hR
  go_enter Try.func44, Try.ntmps44
  go_wp2_with (fail)
  go_loopw [6] (fun u wx => ∃ i m : Nat, i + m = n ∧ u = .int .i64 i ∧ otherF l r m i = R ∧ wx = w) (fun u _ => n - (intOf u).toNat)
  case atStart => exact ⟨0, n, by omega, rfl, HR.out, rfl⟩
  case round =>
    obtain ⟨i, m, him, rfl, hF, hwx⟩ := hrel
    have hwx' := hwx.symm
    clear hwx
    subst hwx'
    cases m with
    | zero =>
      rw [otherF] at hF
      have HF := Lib.hid hF
      have hie : n = i := by omega
      subst hie
      clear hF him
      go_wp2_with (fail)
      go_ret2
      exact ⟨by rw [← HF.out]; rfl, rfl⟩
    | succ m =>
      have hlt : i < n := by omega
      have hk : kx i < n := by unfold kx; split <;> omega
      have hx := (pair_hit2 i (by omega)).2.2
      obtain ⟨G, o, rfl, _, hc1⟩ := hd.at (Below.refl _ _) i (by rw [HL.out]; exact hlt)
      obtain ⟨G2, o2, hG2, _, hc2⟩ := hd.at (Below.refl _ _) (kx i) (by rw [HL.out]; exact hk)
      cases hG2
      rw [otherF] at hF
      obtain ⟨k, hkk⟩ : ∃ k, kx i = k := ⟨_, rfl⟩
      rw [hkk] at hk hx hc2 hF
      obtain ⟨y, hy⟩ : ∃ y, ith l i = y := ⟨_, rfl⟩
      obtain ⟨z, hz⟩ : ∃ z, ith l k = z := ⟨_, rfl⟩
      rw [hy] at hc1 hF
      rw [hz] at hc2 hF
      have HF := Lib.hid hF
      have gi0 : (0 : Int) ≤ (i : Int) := by omega
      have gi1 : (i : Int) < (n : Int) := by omega
      have gk0 : (0 : Int) ≤ (k : Int) := by omega
      have gk1 : (k : Int) < (n : Int) := by omega
      clear hF hkk hy hz
      by_cases hr : y = r
      · subst hr
        go_wp2_with (fail)
        go_ret2
        exact ⟨by rw [← HF.out, if_pos (by first | rfl | trivial)]; rfl, rfl⟩
      · have hb : (y == r) = false := by simpa using hr
        have HF2 := Lib.hid (by have := HF.out; rwa [if_neg hr] at this : otherF l r m (i + 1) = R)
        clear hr HF
        go_wp2_with (fail)
        go_roundw
        case rel => exact ⟨i + 1, m, by omega, by go_num, HF2.out, trivial⟩
        case measure => simp [intOf]; omega
theorem rd_lit2 {k : IntKind} (w : World) (t : TypeId) (xs : List Int) : Rd k (w.alloc (.cells (xs.map (Value.int k)).toArray t)) (some ⟨w.heap.size, 0, none⟩) xs := rd_lit w t xs
set_option maxRecDepth 100000 in
set_option maxHeartbeats 1000000 in
theorem RefBr_any (w : World) : Calls Try.prog 45 #[] w fun e w' => ∃ a, e = .returned (.slice a 30 30) ∧ Rd .i32 w' a brL ∧ Below w.heap.size w w' := by
  go_enter Try.func45, Try.ntmps45
  go_wp2
  go_ret
  exact ⟨_, rfl, rd_lit w 21 brL, (Below.refl _ _).alloc (Nat.le_refl _) _⟩
set_option maxRecDepth 100000 in
set_option maxHeartbeats 1000000 in
theorem RefMs_any (w : World) : Calls Try.prog 46 #[] w fun e w' => ∃ a, e = .returned (.slice a 10 10) ∧ Rd .i32 w' a mirL ∧ Below w.heap.size w w' := by
  go_enter Try.func46, Try.ntmps46
  go_wp2
  go_ret
  exact ⟨_, rfl, rd_lit w 21 mirL, (Below.refl _ _).alloc (Nat.le_refl _) _⟩
set_option maxRecDepth 100000 in
set_option maxHeartbeats 1000000 in
theorem RefMirror_any (r : Int) (w : World) : Calls Try.prog 35 #[.int .i32 r] w fun e w' => e = .returned (.int .i32 (mirrorI r)) ∧ Below w.heap.size w w' := by
  have hm := mirror02 r
  obtain ⟨p, hp⟩ : ∃ p, otherF brL r 30 0 = p := ⟨_, rfl⟩
  obtain ⟨q, hq⟩ : ∃ q, otherF mirL r 10 0 = q := ⟨_, rfl⟩
  have HO1 := Lib.hid (fun a W (h : Rd .i32 W a brL) => other_any a brL 30 30 r W rfl h (by decide) (by decide))
  have HO2 := Lib.hid (fun a W (h : Rd .i32 W a mirL) => other_any a mirL 10 10 r W rfl h (by decide) (by decide))
  rw [hp] at HO1
  rw [hq] at HO2
  rw [hp, hq] at hm
  obtain ⟨p1, p2⟩ := p
  obtain ⟨q1, q2⟩ := q
  simp only at hm HO1 HO2
  have HM := Lib.hid hm
  clear hp hq hm
  go_enter Try.func35, Try.ntmps35
  go_upto_region 2 with (first | (go_at_call 45; refine (RefBr_any _).mono ?_; rintro e w1 ⟨a1, rfl, hr1, hb1⟩) | (go_at_call 44; refine (HO1.out _ _ hr1).mono ?_; rintro e w' ⟨rfl, hw'⟩; subst hw'))
  cases p2 with
  | true =>
    go_wp2_with (fail)
    go_ret
    exact ⟨ret_i (by rw [HM.out, if_pos (by first | rfl | trivial)]), hb1⟩
  | false =>
    have HM2 := Lib.hid (HM.out.trans (if_neg (by simp)))
    go_upto_region 5 with (first | (go_at_call 46; refine (RefMs_any _).mono ?_; rintro e w2 ⟨a2, rfl, hr2, hb2⟩) | (go_at_call 44; refine (HO2.out _ _ hr2).mono ?_; rintro e w' ⟨rfl, hw'⟩; subst hw'))
    have hb : Below w.heap.size w w2 := hb1.trans (hb2.mono hb1.size)
    cases q2 with
    | true =>
      go_wp2_with (fail)
      go_ret
      exact ⟨ret_i (by rw [HM2.out, if_pos (by first | rfl | trivial)]), hb⟩
    | false =>
      go_wp2_with (fail)
      go_ret
      exact ⟨ret_i (by rw [HM2.out, if_neg (by simp)]), hb⟩
set_option maxHeartbeats 400000 in
theorem RefMirrored_any (r : Int) (x : Nat) (w : World) (hx : x ≤ 255) : Calls Try.prog 23 #[.int .i32 r, .int .u8 x] w fun e w' => e = .returned (.int .i32 (mirroredI r x)) ∧ Below w.heap.size w w' := by
  have hM : mirroredI r x = if x % 2 = 1 then mirrorI r else r := rfl
  have HM := Lib.hid hM
  have HI := Lib.hid (RefMirror_any r w)
  clear hM
  go_enter Try.func23, Try.ntmps23
  by_cases h : x % 2 = 1
  · have hi : (x : Int) % 2 = 1 := by omega
    have HF := Lib.hid (HM.out.trans (if_pos h))
    clear h
    go_wp2_with (go_at_call 35; refine HI.out.mono ?_; rintro e w2 ⟨rfl, hw2⟩)
    go_ret
    exact ⟨ret_i (by rw [HF.out]), hw2⟩
  · have hi : (x : Int) % 2 = 0 := by omega
    have HF := Lib.hid (HM.out.trans (if_neg h))
    clear h
    go_wp2_with (fail)
    go_ret
    exact ⟨ret_i (by rw [HF.out]), Below.refl _ _⟩
set_option maxHeartbeats 400000 in
theorem LawVM_any (r : Int) (x : Nat) (w : World) (hx : x ≤ 255) : Calls Try.prog 5 #[.int .i32 r, .int .u8 x] w fun e w' => e = .returned (.bool true) ∧ Below w.heap.size w w' := by
  have H1 := Lib.hid (Mirrored_any r x w hx)
  have H2 := Lib.hid (RefMirrored_any r x w hx)
  obtain ⟨m, hm⟩ : ∃ m, mirroredI r x = m := ⟨_, rfl⟩
  rw [hm] at H1 H2
  clear hm
  go_enter Try.func5, Try.ntmps5
  go_wp2_with (first | (go_at_call 22; refine H1.out.mono ?_; rintro e w' ⟨rfl, hw'⟩; subst hw') | (go_at_call 23; refine H2.out.mono ?_; rintro e w2 ⟨rfl, hw2⟩) | (go_at_call 16; refine (wakes_any w2).mono ?_; rintro e w3 ⟨rfl, hw3⟩))
  go_ret
  exact ⟨ret_b (by first | rfl | simp), hw2.trans (hw3.mono hw2.size)⟩
end Go.Proofs.Ytbhhebheclfdlaa
