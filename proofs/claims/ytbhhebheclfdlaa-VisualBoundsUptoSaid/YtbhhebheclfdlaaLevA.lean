/- Contracts of package level's small functions: known, left, opens, first, after. -/
import Derived.Test.YtbhhebheclfdlaaProg
import Derived.Test.YtbhhebheclfdlaaSpec07
import Derived.Test.YtbhhebheclfdlaaStack
import Derived.Test.YtbhhebheclfdlaaPairs
import Derived.BigQuiet
import Derived.IntWalk
import Derived.Deep.DeepCutAuto
import Derived.Deep.RegionHeld3
import Derived.Deep.RegionLaw
import Derived.Lib.Hide
namespace Go.Proofs.Ytbhhebheclfdlaa
set_option linter.unusedVariables false
set_option linter.unusedSimpArgs false
open Go.RowKit

set_option maxHeartbeats 400000 in
theorem lknown_any (d : Int) (w : World) : Calls Try.prog 47 #[.int .i8 d] w fun e w' => e = .returned (.int .i8 (lkn d)) ∧ w = w' := by
  go_enter Try.func47, Try.ntmps47
  go_wp2
  all_goals (go_ret; refine ⟨ret_i ?_, rfl⟩; unfold lkn; first | rw [if_pos (by omega)] | rw [if_neg (by omega)])
set_option maxHeartbeats 400000 in
theorem lleft_any (d : Int) (w : World) : Calls Try.prog 66 #[.int .i8 d] w fun e w' => e = .returned (.bool (leftB d)) ∧ w = w' := by
  go_enter Try.func66, Try.ntmps66
  go_wp2
  all_goals (go_ret; refine ⟨ret_b ?_, rfl⟩; unfold leftB; rw [Bool.eq_iff_iff]; simp; try omega)
set_option maxHeartbeats 400000 in
theorem lopens_any (d : Int) (w : World) : Calls Try.prog 58 #[.int .i8 d] w fun e w' => e = .returned (.bool (opensB d)) ∧ w = w' := by
  go_enter Try.func58, Try.ntmps58
  go_wp2
  all_goals (go_ret; refine ⟨ret_b ?_, rfl⟩; unfold opensB; rw [Bool.eq_iff_iff]; simp; try omega)

set_option maxHeartbeats 1000000 in
theorem first_any (a : Option Addr) (ds : List Int) (n cap : Nat) (w : World) (hl : ds.length = n) (hd : Rd .i8 w a ds) (hn : n ≤ 2097152) :
    Calls Try.prog 48 #[.slice a n cap] w fun e w' => e = .returned (.int .i8 (firstI ds)) ∧ w' = w := by
  have HL := Lib.hid hl
  have HC := Lib.hid (fun i (hi : i < n) => hd.at (Below.refl _ _) i (by omega))
  have HI : Hid (firstI ds = firstF ds n 0 0) := by rw [← hl]; rfl
  clear hl hd
  go_enter Try.func48, Try.ntmps48
  go_wp2_with (fail)
  go_loopw [3, 8] (fun dp c wx => wx = w ∧ ∃ (i m deep : Nat), i + m = n ∧ dp = .int .i64 deep ∧ c = .int .i64 i ∧ deep ≤ i ∧ firstF ds m i deep = firstF ds n 0 0) (fun _ c _ => n - (intOf c).toNat)
  case atStart => exact ⟨rfl, 0, n, 0, by omega, rfl, rfl, by omega, rfl⟩
  case round =>
    obtain ⟨hwx, i, m, deep, him, rfl, rfl, hdi, hF⟩ := hrel
    have hwx' := hwx.symm
    clear hwx
    subst hwx'
    have HIM := Lib.hid him
    have HF := Lib.hid hF
    clear him hF
    by_cases hi : i < n
    · obtain ⟨m, rfl⟩ : ∃ q, m = q + 1 := ⟨m - 1, by have := HIM.out; omega⟩
      obtain ⟨G, o, rfl, _, hGc⟩ := HC.out i hi
      have hst : ∀ d, lkn (ith ds i) = d → firstF ds (m + 1) i deep = if opensB d = true then firstF ds m (i + 1) (deep + 1) else if d = 22 ∧ 0 < deep then firstF ds m (i + 1) (deep - 1) else if d = 22 ∨ d = 10 then 13
          else if deep = 0 ∧ (d = 0 ∨ d = 1 ∨ d = 2) then d else firstF ds m (i + 1) deep := fun d h => by rw [firstF, h]
      generalize ith ds i = y at hGc hst
      obtain ⟨d, hd⟩ : ∃ d, lkn y = d := ⟨_, rfl⟩
      have hs := hst d hd
      have HD : Hid (∀ W, Calls Try.prog 47 #[.int .i8 y] W fun e w' => e = .returned (.int .i8 d) ∧ W = w') := fun W => by rw [← hd]; exact lknown_any y W
      clear hst hd
      by_cases ho : opensB d = true
      · have HN := Lib.hid (hs.trans (if_pos ho))
        clear hs
        go_wp2_with (first | (go_at_call 47; refine (HD.out _).mono ?_; rintro e w' ⟨rfl, rfl⟩) | (go_at_call 58; refine (lopens_any _ _).mono ?_; rintro e w' ⟨rfl, rfl⟩))
        go_roundw
        case rel => exact ⟨trivial, i + 1, m, deep + 1, by have := HIM.out; omega, rfl, by go_num, by omega, by rw [← HF.out, HN.out]⟩
        case measure => simp [intOf]; omega
      · rw [if_neg ho] at hs
        have hof : opensB d = false := by simpa using ho
        clear ho
        by_cases h22 : d = 22
        · subst h22
          by_cases hdp : 0 < deep
          · have HN := Lib.hid (hs.trans (if_pos ⟨rfl, hdp⟩))
            clear hs
            obtain ⟨dp', rfl⟩ : ∃ q, deep = q + 1 := ⟨deep - 1, by omega⟩
            rw [Nat.add_sub_cancel] at HN
            go_wp2_with (first | (go_at_call 47; refine (HD.out _).mono ?_; rintro e w' ⟨rfl, rfl⟩) | (go_at_call 58; refine (lopens_any _ _).mono ?_; rintro e w' ⟨rfl, rfl⟩))
            go_roundw
            case rel => exact ⟨trivial, i + 1, m, dp', by have := HIM.out; omega, rfl, by go_num, by omega, by rw [← HF.out, HN.out]⟩
            case measure => simp [intOf]; omega
          · have HN := Lib.hid ((hs.trans (if_neg (fun h => hdp h.2))).trans (if_pos (.inl rfl)))
            clear hs
            go_wp2_with (first | (go_at_call 47; refine (HD.out _).mono ?_; rintro e w' ⟨rfl, rfl⟩) | (go_at_call 58; refine (lopens_any _ _).mono ?_; rintro e w' ⟨rfl, rfl⟩))
            go_ret
            exact ⟨ret_i (by rw [HI.out, ← HF.out, HN.out]), rfl⟩
        · have c22 : (d == 22) = false := by simpa using h22
          rw [if_neg (fun h => h22 h.1)] at hs
          by_cases h10 : d = 10
          · subst h10
            have HN := Lib.hid (hs.trans (if_pos (.inr rfl)))
            clear hs h22
            go_wp2_with (first | (go_at_call 47; refine (HD.out _).mono ?_; rintro e w' ⟨rfl, rfl⟩) | (go_at_call 58; refine (lopens_any _ _).mono ?_; rintro e w' ⟨rfl, rfl⟩))
            go_ret
            exact ⟨ret_i (by rw [HI.out, ← HF.out, HN.out]), rfl⟩
          · have c10 : (d == 10) = false := by simpa using h10
            rw [if_neg (fun h => h.elim h22 h10)] at hs
            clear h22 h10
            by_cases h0 : deep = 0
            · subst h0
              by_cases h3 : d = 0 ∨ d = 1 ∨ d = 2
              · have HN := Lib.hid (hs.trans (if_pos ⟨rfl, h3⟩))
                clear hs
                rcases h3 with h3 | h3 | h3
                all_goals
                  subst h3
                  go_wp2_with (first | (go_at_call 47; refine (HD.out _).mono ?_; rintro e w' ⟨rfl, rfl⟩) | (go_at_call 58; refine (lopens_any _ _).mono ?_; rintro e w' ⟨rfl, rfl⟩))
                  go_ret
                  exact ⟨ret_i (by rw [HI.out, ← HF.out, HN.out]), rfl⟩
              · have HN := Lib.hid (hs.trans (if_neg (fun h => h3 h.2)))
                have c0 : (d == 0) = false := by simp only [not_or] at h3; simpa using h3.1
                have c1 : (d == 1) = false := by simp only [not_or] at h3; simpa using h3.2.1
                have c2 : (d == 2) = false := by simp only [not_or] at h3; simpa using h3.2.2
                clear hs h3
                go_wp2_with (first | (go_at_call 47; refine (HD.out _).mono ?_; rintro e w' ⟨rfl, rfl⟩) | (go_at_call 58; refine (lopens_any _ _).mono ?_; rintro e w' ⟨rfl, rfl⟩))
                go_roundw
                case rel => exact ⟨trivial, i + 1, m, 0, by have := HIM.out; omega, rfl, by go_num, by omega, by rw [← HF.out, HN.out]⟩
                case measure => simp [intOf]; omega
            · have HN := Lib.hid (hs.trans (if_neg (fun h => h0 h.1)))
              have cd : ((deep : Int) == 0) = false := by simp only [beq_eq_false_iff_ne]; omega
              clear hs
              go_wp2_with (first | (go_at_call 47; refine (HD.out _).mono ?_; rintro e w' ⟨rfl, rfl⟩) | (go_at_call 58; refine (lopens_any _ _).mono ?_; rintro e w' ⟨rfl, rfl⟩))
              go_roundw
              case rel => exact ⟨trivial, i + 1, m, deep, by have := HIM.out; omega, rfl, by go_num, by omega, by rw [← HF.out, HN.out]⟩
              case measure => simp [intOf]; omega
    · have h0 : m = 0 := by have := HIM.out; omega
      have HZ : Hid ((13 : Int) = firstF ds n 0 0) := by subst h0; exact HF
      go_wp2_with (fail)
      go_ret
      exact ⟨ret_i (by rw [HI.out, ← HZ.out]), rfl⟩

set_option maxHeartbeats 1000000 in
theorem after_any (a : Option Addr) (ds : List Int) (n cap fr : Nat) (w : World) (hl : ds.length = n) (hd : Rd .i8 w a ds) (hn : n ≤ 2097152) (hfr : fr ≤ n) :
    Calls Try.prog 49 #[.slice a n cap, .int .i64 fr] w fun e w' => e = .returned (.int .i64 (afterF ds (n - fr) fr 0)) ∧ w' = w := by
  have HL := Lib.hid hl
  have HC := Lib.hid (fun i (hi : i < n) => hd.at (Below.refl _ _) i (by omega))
  clear hl hd
  go_enter Try.func49, Try.ntmps49
  go_wp2_with (fail)
  go_loopw [5, 6] (fun dp c wx => wx = w ∧ ∃ (i m deep : Nat), i + m = n ∧ dp = .int .i64 deep ∧ c = .int .i64 i ∧ deep ≤ i ∧ afterF ds m i deep = afterF ds (n - fr) fr 0) (fun _ c _ => n - (intOf c).toNat)
  case atStart => exact ⟨rfl, fr, n - fr, 0, by omega, rfl, rfl, by omega, rfl⟩
  case round =>
    obtain ⟨hwx, i, m, deep, him, rfl, rfl, hdi, hF⟩ := hrel
    have hwx' := hwx.symm
    clear hwx
    subst hwx'
    have HIM := Lib.hid him
    have HF := Lib.hid hF
    clear him hF
    by_cases hi : i < n
    · obtain ⟨m, rfl⟩ : ∃ q, m = q + 1 := ⟨m - 1, by have := HIM.out; omega⟩
      obtain ⟨G, o, rfl, _, hGc⟩ := HC.out i hi
      have hst : ∀ d, lkn (ith ds i) = d → afterF ds (m + 1) i deep = if opensB d = true then afterF ds m (i + 1) (deep + 1) else if d = 22 ∧ deep = 0 then (i : Int) + 1 else if d = 22 then afterF ds m (i + 1) (deep - 1)
          else if d = 10 then -1 else afterF ds m (i + 1) deep := fun d h => by rw [afterF, h]
      generalize ith ds i = y at hGc hst
      obtain ⟨d, hd⟩ : ∃ d, lkn y = d := ⟨_, rfl⟩
      have hs := hst d hd
      have HD : Hid (∀ W, Calls Try.prog 47 #[.int .i8 y] W fun e w' => e = .returned (.int .i8 d) ∧ W = w') := fun W => by rw [← hd]; exact lknown_any y W
      clear hst hd
      by_cases ho : opensB d = true
      · have HN := Lib.hid (hs.trans (if_pos ho))
        clear hs
        go_wp2_with (first | (go_at_call 47; refine (HD.out _).mono ?_; rintro e w' ⟨rfl, rfl⟩) | (go_at_call 58; refine (lopens_any _ _).mono ?_; rintro e w' ⟨rfl, rfl⟩))
        go_roundw
        case rel => exact ⟨trivial, i + 1, m, deep + 1, by have := HIM.out; omega, rfl, by go_num, by omega, by rw [← HF.out, HN.out]⟩
        case measure => simp [intOf]; omega
      · rw [if_neg ho] at hs
        have hof : opensB d = false := by simpa using ho
        clear ho
        by_cases h22 : d = 22
        · subst h22
          by_cases hdp : deep = 0
          · subst hdp
            have HN := Lib.hid (hs.trans (if_pos ⟨rfl, rfl⟩))
            clear hs
            go_wp2_with (first | (go_at_call 47; refine (HD.out _).mono ?_; rintro e w' ⟨rfl, rfl⟩) | (go_at_call 58; refine (lopens_any _ _).mono ?_; rintro e w' ⟨rfl, rfl⟩))
            go_ret
            exact ⟨ret_i (by rw [← HF.out, HN.out]), rfl⟩
          · have HN := Lib.hid ((hs.trans (if_neg (fun h => hdp h.2))).trans (if_pos rfl))
            clear hs
            obtain ⟨dp', rfl⟩ : ∃ q, deep = q + 1 := ⟨deep - 1, by omega⟩
            rw [Nat.add_sub_cancel] at HN
            have cd : (((dp' + 1 : Nat) : Int) == 0) = false := by simp only [beq_eq_false_iff_ne]; omega
            go_wp2_with (first | (go_at_call 47; refine (HD.out _).mono ?_; rintro e w' ⟨rfl, rfl⟩) | (go_at_call 58; refine (lopens_any _ _).mono ?_; rintro e w' ⟨rfl, rfl⟩))
            go_roundw
            case rel => exact ⟨trivial, i + 1, m, dp', by have := HIM.out; omega, rfl, by go_num, by omega, by rw [← HF.out, HN.out]⟩
            case measure => simp [intOf]; omega
        · have c22 : (d == 22) = false := by simpa using h22
          rw [if_neg (fun h => h22 h.1), if_neg h22] at hs
          by_cases h10 : d = 10
          · subst h10
            have HN := Lib.hid (hs.trans (if_pos rfl))
            clear hs h22
            go_wp2_with (first | (go_at_call 47; refine (HD.out _).mono ?_; rintro e w' ⟨rfl, rfl⟩) | (go_at_call 58; refine (lopens_any _ _).mono ?_; rintro e w' ⟨rfl, rfl⟩))
            go_ret
            exact ⟨ret_i (by rw [← HF.out, HN.out]), rfl⟩
          · have c10 : (d == 10) = false := by simpa using h10
            have HN := Lib.hid (hs.trans (if_neg h10))
            clear h22 h10 hs
            go_wp2_with (first | (go_at_call 47; refine (HD.out _).mono ?_; rintro e w' ⟨rfl, rfl⟩) | (go_at_call 58; refine (lopens_any _ _).mono ?_; rintro e w' ⟨rfl, rfl⟩))
            go_roundw
            case rel => exact ⟨trivial, i + 1, m, deep, by have := HIM.out; omega, rfl, by go_num, by omega, by rw [← HF.out, HN.out]⟩
            case measure => simp [intOf]; omega
    · have h0 : m = 0 := by have := HIM.out; omega
      have HZ : Hid ((-1 : Int) = afterF ds (n - fr) fr 0) := by subst h0; exact HF
      go_wp2_with (fail)
      go_ret
      exact ⟨ret_i (by rw [← HZ.out]), rfl⟩
end Go.Proofs.Ytbhhebheclfdlaa
