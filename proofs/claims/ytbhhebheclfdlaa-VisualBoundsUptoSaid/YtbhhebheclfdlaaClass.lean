/- Contract of class.find: a binary search in a table of steps: it returns the class of the step that the character (a number that is none counts as FFFD) lies in, and that step's last character. The table has 1 to 100000 steps; its cells are known. -/
import Derived.Test.YtbhhebheclfdlaaProg
import Derived.Test.YtbhhebheclfdlaaSpec02
import Derived.Deep.QuietTactic
import Derived.BigQuiet
import Derived.Deep.DeepCutAuto
import Derived.Deep.LoopGhost
namespace Go.Proofs.Ytbhhebheclfdlaa
set_option linter.unusedVariables false
set_option linter.unusedSimpArgs false
open Go.RowKit

def FindPost (n : Nat) (F I : List Int) (r : Int) (w : World) (e : Ending) (w' : World) : Prop :=
  ∃ low, low < n ∧ (low = 0 ∨ ith F low ≤ r) ∧ (low + 1 = n ∨ r < ith F (low + 1)) ∧
    e = .returned (.tuple #[.int .u8 (ith I low), .int .i32 (if low + 1 < n then wrap32 (ith F (low + 1) - 1) else 1114111)]) ∧ ∃ q, w' = w.drewN q

def badB (r : Int) : Bool := decide (r < 0) || decide (1114111 < r) || (decide (55296 ≤ r) && decide (r ≤ 57343))
theorem known_yes {r : Int} (h : badB r = true) : known r = 65533 := by
  simp [badB] at h; unfold known; rw [if_pos (by omega)]
theorem known_no {r : Int} (h : badB r = false) : known r = r := by
  simp [badB] at h; unfold known; rw [if_neg (by omega)]

set_option maxHeartbeats 400000 in
theorem find_any (b n cap : Nat) (F I : List Int) (r : Int) (w : World) (hn : 1 ≤ n) (hm : n ≤ 100000)
    (hF : ∀ i, i < n → w.cell? ⟨b, i * 2, none⟩ = some (.int .i32 (ith F i))) (hI : ∀ i, i < n → w.cell? ⟨b, i * 2 + 1, none⟩ = some (.int .u8 (ith I i))) :
    Calls Try.prog 56 #[.slice (some ⟨b, 0, none⟩) n cap, .int .i32 r] w (FindPost n F I (known r) w) := by
  go_enter Try.func56, Try.ntmps56
  go_upto_region 1 with (fail)
  go_cut [22] (fun s22 wx => s22 = .bool (badB r) ∧ wx = w)
  case first =>
    by_cases h1 : r < 0
    · go_wp2_with (fail)
      go_meet
      exact ⟨by simp [badB, h1], rfl⟩
    · by_cases h2 : 1114111 < r
      · go_wp2_with (fail)
        go_meet
        exact ⟨by simp [badB, h2], rfl⟩
      · by_cases h3 : 55296 ≤ r
        · go_wp2_with (fail)
          go_meet
          exact ⟨by simp [badB, h3]; omega, rfl⟩
        · go_wp2_with (fail)
          go_meet
          exact ⟨by unfold badB; simp; omega, rfl⟩
  case rest =>
    obtain ⟨rfl, rfl⟩ := hcut
    go_upto_if 22 with (fail)
    go_cut [1] (fun s1 wx => s1 = .int .i32 (known r) ∧ wx = wc)
    case first =>
      cases hb : badB r
      · have := known_no hb
        go_wp2_with (fail)
        go_meet
        exact ⟨by rw [this], rfl⟩
      · have := known_yes hb
        go_wp2_with (fail)
        go_meet
        exact ⟨by rw [this], rfl⟩
    case rest =>
      obtain ⟨rfl, rfl⟩ := hcut
      go_wp2_with (fail)
      have hkb := known_bd r
      generalize known r = q at *
      go_loop [6, 7] (fun l h => ∃ lo hi : Nat, lo < hi ∧ hi ≤ n ∧ l = .int .i64 lo ∧ h = .int .i64 hi ∧ (lo = 0 ∨ ith F lo ≤ q) ∧ (hi = n ∨ q < ith F hi)) (fun l h => (intOf h - intOf l).toNat)
      case atStart => exact ⟨0, n, by omega, by omega, rfl, rfl, .inl rfl, .inl rfl⟩
      case round =>
        obtain ⟨lo, hi, hlt, hhi, rfl, rfl, hlo, hh⟩ := hrel
        by_cases hgo : lo + 1 < hi
        · have hc := hF ((lo + hi) / 2) (by omega)
          by_cases hcmp : q < ith F ((lo + hi) / 2)
          · go_wp2
            go_round
            case rel => exact ⟨lo, (lo + hi) / 2, by omega, by omega, rfl, by go_num, hlo, .inr hcmp⟩
            case measure => simp [intOf]; omega
          · go_wp2
            go_round
            case rel => exact ⟨(lo + hi) / 2, hi, by omega, by omega, by go_num, rfl, .inr (by omega), hh⟩
            case measure => simp [intOf]; omega
        · have hI0 := hI lo (by omega)
          obtain rfl : hi = lo + 1 := by omega
          by_cases hlast : lo + 1 < n
          · have hF1 := hF (lo + 1) hlast
            have g1 : (0 : Int) ≤ lo := by omega
            have g2 : (lo : Int) < n := by omega
            have g3 : (0 : Int) ≤ (lo : Int) + 1 := by omega
            have g4 : (lo : Int) + 1 < n := by omega
            go_wp2
            go_quiet (fail)
            go_wp2
            go_ret2
            exact ⟨lo, by omega, hlo, hh, ret_ii rfl (by rw [if_pos hlast]), ⟨_, rfl⟩⟩
          · go_wp2
            go_ret2
            exact ⟨lo, by omega, hlo, hh, ret_ii rfl (by rw [if_neg hlast]), ⟨0, rfl⟩⟩
end Go.Proofs.Ytbhhebheclfdlaa
