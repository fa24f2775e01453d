/- The law VisualPairs of layer 10: at any character and level it answers true, and nothing that was there changes. -/
import Derived.Test.YtbhhebheclfdlaaWake
namespace Go.Proofs.Ytbhhebheclfdlaa
set_option linter.unusedVariables false
set_option linter.unusedSimpArgs false
open Go.RowKit

set_option maxRecDepth 100000 in
set_option maxHeartbeats 1000000 in
theorem LawVP_any (r : Int) (x : Nat) (w : World) (hx : x ≤ 255) : Calls Try.prog 10 #[.int .i32 r, .int .u8 x] w fun e w' => e = .returned (.bool true) ∧ Below w.heap.size w w' := by
  have HM := Lib.hid (fun (r : Int) (W : World) => Mirrored_any r x W hx)
  have HI := Lib.hid (fun (r : Int) (W : World) => Mirror_any r W)
  have HW := Lib.hid (wakes_any w)
  obtain ⟨h, hh⟩ : ∃ h, x % 2 = h := ⟨_, rfl⟩
  have hxi : (x : Int) % 2 = (h : Int) := by omega
  by_cases h1 : h = 1
  · subst h1
    have hm : ∀ r, mirroredI r x = mirrorI r := fun r => by unfold mirroredI; rw [if_pos hh]
    have HM2 : Hid (∀ (r : Int) (W : World), Calls Try.prog 22 #[.int .i32 r, .int .u8 x] W fun e w' => e = .returned (.int .i32 (mirrorI r)) ∧ W = w') := Lib.hid fun r W => by rw [← hm]; exact HM.out r W
    obtain ⟨m, hmm⟩ : ∃ m, mirrorI r = m := ⟨_, rfl⟩
    obtain ⟨q, hq⟩ : ∃ q, mirrorI m = q := ⟨_, rfl⟩
    clear hh hm HM
    by_cases hqr : q = r
    · rw [hqr] at hq
      clear hqr
      go_enter Try.func10, Try.ntmps10
      go_wp2_with (first | (go_at_call 28; refine (HI.out _ _).mono ?_; rintro e w' ⟨rfl, hw'⟩; subst hw') | (go_at_call 22; refine (HM2.out _ _).mono ?_; rintro e w' ⟨rfl, hw'⟩; subst hw') | (go_at_call 16; refine HW.out.mono ?_; rintro e w2 ⟨rfl, hw2⟩))
      go_ret
      exact ⟨ret_b (by first | rfl | simp), hw2⟩
    · have hb : (q != r) = true := by simpa using hqr
      clear hqr
      go_enter Try.func10, Try.ntmps10
      go_wp2_with (first | (go_at_call 28; refine (HI.out _ _).mono ?_; rintro e w' ⟨rfl, hw'⟩; subst hw') | (go_at_call 22; refine (HM2.out _ _).mono ?_; rintro e w' ⟨rfl, hw'⟩; subst hw') | (go_at_call 16; refine HW.out.mono ?_; rintro e w2 ⟨rfl, hw2⟩))
      go_ret
      exact ⟨ret_b (by first | rfl | simp), hw2⟩
  · have h0 : h = 0 := by omega
    subst h0
    have hm : mirroredI r x = r := by unfold mirroredI; rw [if_neg (by omega)]
    have e1 := HM.out r
    rw [hm] at e1
    have E1 := Lib.hid e1
    clear hh hm HM HI e1 h1
    go_enter Try.func10, Try.ntmps10
    go_wp2_with (first | (go_at_call 22; refine (E1.out _).mono ?_; rintro e w' ⟨rfl, hw'⟩; subst hw') | (go_at_call 16; refine HW.out.mono ?_; rintro e w2 ⟨rfl, hw2⟩))
    go_ret
    exact ⟨ret_b (by first | rfl | simp), hw2⟩
end Go.Proofs.Ytbhhebheclfdlaa
