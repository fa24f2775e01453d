/- Contract of pair.decide: what a pair of brackets becomes. The list is known by its cells; the places lie in it. -/
import Derived.Test.YtbhhebheclfdlaaPairA
namespace Go.Proofs.Ytbhhebheclfdlaa
set_option linter.unusedVariables false
set_option linter.unusedSimpArgs false
open Go.RowKit

set_option maxHeartbeats 1000000 in
theorem decide_any (G n cap p0 p1 : Nat) (xs : List Int) (e ahead : Int) (w : World) (hG : G < w.heap.size) (h01 : p0 < p1) (h1n : p1 < n) (hn : n ≤ cap) (hc : cap ≤ maxLen)
    (hx : ∀ i, i < n → w.cell? ⟨G, i, none⟩ = some (.int .i8 (ith xs i))) :
    Calls Try.prog 73 #[.slice (some ⟨G, 0, none⟩) n cap, .agg #[.int .i64 p0, .int .i64 p1], .int .i8 e, .int .i8 ahead] w
      fun r w' => r = .returned (.int .i8 (decI xs p0 p1 e ahead)) ∧ Below w.heap.size w w' := by
  unfold maxLen at hc
  go_enter Try.func73, Try.ntmps73
  go_wp2_with (fail)
  go_loop [9, 20] (fun a c => ∃ (i j : Nat) (acc : Int), i + j + (p0 + 1) = p1 ∧ c = .int .i64 i ∧ a = .int .i8 acc ∧ decF xs e ahead j (p0 + 1 + i) acc = decI xs p0 p1 e ahead) (fun _ c => p1 - (p0 + 1) - (intOf c).toNat)
  case atStart => exact ⟨0, p1 - (p0 + 1), -1, by omega, rfl, rfl, rfl⟩
  case round =>
    obtain ⟨i, j, acc, hij, rfl, rfl, hF⟩ := hrel
    have HF := Lib.hid hF
    clear hF
    have HIJ := Lib.hid hij
    by_cases hlt : i + (p0 + 1) < p1
    · obtain ⟨j, rfl⟩ : ∃ j', j = j' + 1 := ⟨j - 1, by omega⟩
      clear hij
      have hcell := hx (p0 + 1 + i) (by omega)
      generalize hy : ith xs (p0 + 1 + i) = y at hcell
      have HY := Lib.hid hy
      clear hy
      have hF : decF xs e ahead (j + 1) (p0 + 1 + i) acc = if wayI y = e then e else if wayI y = -1 then decF xs e ahead j (p0 + 1 + (i + 1)) acc else decF xs e ahead j (p0 + 1 + (i + 1)) ahead := by
        rw [decF, HY.out]; rfl
      by_cases c1 : wayI y = e
      · rw [if_pos c1] at hF
        have HF2 := Lib.hid hF
        clear hF
        have c1' : (wayI y == e) = true := by rw [c1]; simp
        have C1 := Lib.hid c1
        clear c1
        go_wp2_with (go_at_call 72; refine (way_any _ _).mono ?_; rintro e w' ⟨rfl, rfl⟩)
        go_ret
        exact ⟨ret_i (by rw [← HF.out, HF2.out]), (Below.refl _ _).alloc (Nat.le_refl _) _⟩
      · rw [if_neg c1] at hF
        have c1' : (wayI y == e) = false := by simpa using c1
        by_cases c2 : wayI y = -1
        · rw [if_pos c2] at hF
          have HF2 := Lib.hid hF
          clear hF
          have c2' : (wayI y == -1) = true := by rw [c2]; simp
          have C1 := Lib.hid c1
          clear c1
          have C2 := Lib.hid c2
          clear c2
          go_wp2_with (go_at_call 72; refine (way_any _ _).mono ?_; rintro e w' ⟨rfl, rfl⟩)
          go_round
          case rel => exact ⟨i + 1, j, acc, by have := HIJ.out; omega, by go_num, rfl, by rw [← HF.out, HF2.out]⟩
          case measure => simp [intOf]; omega
        · rw [if_neg c2] at hF
          have HF2 := Lib.hid hF
          clear hF
          have c2' : (wayI y == -1) = false := by simpa using c2
          have C1 := Lib.hid c1
          clear c1
          have C2 := Lib.hid c2
          clear c2
          go_wp2_with (go_at_call 72; refine (way_any _ _).mono ?_; rintro e w' ⟨rfl, rfl⟩)
          go_round
          case rel => exact ⟨i + 1, j, ahead, by have := HIJ.out; omega, by go_num, rfl, by rw [← HF.out, HF2.out]⟩
          case measure => simp [intOf]; omega
    · obtain rfl : j = 0 := by omega
      go_wp2
      go_ret
      exact ⟨ret_i (by rw [← HF.out]; rfl), (Below.refl _ _).alloc (Nat.le_refl _) _⟩
end Go.Proofs.Ytbhhebheclfdlaa
