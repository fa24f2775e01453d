/- Contracts of level. -/
import Derived.Test.YtlbclfmbejjneaaGreatDoorProg
import Derived.Test.YtlbclfmbejjneaaGreatDoorV1
import Derived.Test.YtlbclfmbejjneaaGreatDoorV2
import Derived.BigQuiet
import Derived.IntWalk
import Derived.Deep.DeepCutAuto
import Derived.Deep.RegionHeld3
import Derived.Deep.RegionLaw
import Derived.Lib.Hide
import Derived.Deep.CutBlock
import Derived.Deep.LoopGhost
import Derived.Test.YtlbclfmbejjneaaGreatDoorV4
import Derived.Maps.AppendAt
import Derived.Lib.SliceRun
namespace Go.Proofs.YtlbclfmbejjneaaGreatDoor
section
set_option linter.unusedVariables false
set_option linter.unusedSimpArgs false
open Go.RowKit

set_option maxHeartbeats 400000 in
theorem lknown_any (d : Int) (w : World) : Calls Tryz.prog 124 #[.int .i8 d] w fun e w' => e = .returned (.int .i8 (lkn d)) ∧ w = w' := by
  go_enter Tryz.func124, Tryz.ntmps124
  go_wp2
  all_goals (go_ret; refine ⟨ret_i ?_, rfl⟩; unfold lkn; first | rw [if_pos (by omega)] | rw [if_neg (by omega)])
set_option maxHeartbeats 400000 in
theorem lleft_any (d : Int) (w : World) : Calls Tryz.prog 152 #[.int .i8 d] w fun e w' => e = .returned (.bool (leftB d)) ∧ w = w' := by
  go_enter Tryz.func152, Tryz.ntmps152
  go_wp2
  all_goals (go_ret; refine ⟨ret_b ?_, rfl⟩; unfold leftB; rw [Bool.eq_iff_iff]; simp; try omega)
set_option maxHeartbeats 400000 in
theorem lopens_any (d : Int) (w : World) : Calls Tryz.prog 144 #[.int .i8 d] w fun e w' => e = .returned (.bool (opensB d)) ∧ w = w' := by
  go_enter Tryz.func144, Tryz.ntmps144
  go_wp2
  all_goals (go_ret; refine ⟨ret_b ?_, rfl⟩; unfold opensB; rw [Bool.eq_iff_iff]; simp; try omega)

set_option maxHeartbeats 1000000 in
theorem first_any (a : Option Addr) (ds : List Int) (n cap : Nat) (w : World) (hl : ds.length = n) (hd : Rd .i8 w a ds) (hn : n ≤ 2097152) :
    Calls Tryz.prog 125 #[.slice a n cap] w fun e w' => e = .returned (.int .i8 (firstI ds)) ∧ w' = w := by
  have HL := Lib.hid hl
  have HC := Lib.hid (fun i (hi : i < n) => hd.at (Below.refl _ _) i (by omega))
  have HI : Hid (firstI ds = firstF ds n 0 0) := by rw [← hl]; rfl
  clear hl hd
  go_enter Tryz.func125, Tryz.ntmps125
  go_wp2_with (fail)
  go_loopw [3, 8] (fun dp c wx => wx = w ∧ ∃ (i m deep : Nat), i + m = n ∧ dp = .int .i64 deep ∧ c = .int .i64 i ∧ deep ≤ i ∧ firstF ds m i deep = firstF ds n 0 0) (fun _ c _ => n - (intOf c).toNat)
  case atStart => exact ⟨rfl, 0, n, 0, by omega, rfl, rfl, by omega, rfl⟩
  case round =>
    obtain ⟨hwx, i, m, deep, him, rfl, rfl, hdi, hF⟩ := hrel
    have hwx' := hwx.symm
    clear hwx
    subst hwx'
    have HIM := Lib.hid him
    have HF := Lib.hid hF
    clear him hF
    by_cases hi : i < n
    · obtain ⟨m, rfl⟩ : ∃ q, m = q + 1 := ⟨m - 1, by have := HIM.out; omega⟩
      obtain ⟨G, o, rfl, _, hGc⟩ := HC.out i hi
      have hst : ∀ d, lkn (ith ds i) = d → firstF ds (m + 1) i deep = if opensB d = true then firstF ds m (i + 1) (deep + 1) else if d = 22 ∧ 0 < deep then firstF ds m (i + 1) (deep - 1) else if d = 22 ∨ d = 10 then 13
          else if deep = 0 ∧ (d = 0 ∨ d = 1 ∨ d = 2) then d else firstF ds m (i + 1) deep := fun d h => by rw [firstF, h]
      generalize ith ds i = y at hGc hst
      obtain ⟨d, hd⟩ : ∃ d, lkn y = d := ⟨_, rfl⟩
      have hs := hst d hd
      have HD : Hid (∀ W, Calls Tryz.prog 124 #[.int .i8 y] W fun e w' => e = .returned (.int .i8 d) ∧ W = w') := fun W => by rw [← hd]; exact lknown_any y W
      clear hst hd
      by_cases ho : opensB d = true
      · have HN := Lib.hid (hs.trans (if_pos ho))
        clear hs
        go_wp2_with (first | (go_at_call 124; refine (HD.out _).mono ?_; rintro e w' ⟨rfl, rfl⟩) | (go_at_call 144; refine (lopens_any _ _).mono ?_; rintro e w' ⟨rfl, rfl⟩))
        go_roundw
        case rel => exact ⟨trivial, i + 1, m, deep + 1, by have := HIM.out; omega, rfl, by go_num, by omega, by rw [← HF.out, HN.out]⟩
        case measure => simp [intOf]; omega
      · rw [if_neg ho] at hs
        have hof : opensB d = false := by simpa using ho
        clear ho
        by_cases h22 : d = 22
        · subst h22
          by_cases hdp : 0 < deep
          · have HN := Lib.hid (hs.trans (if_pos ⟨rfl, hdp⟩))
            clear hs
            obtain ⟨dp', rfl⟩ : ∃ q, deep = q + 1 := ⟨deep - 1, by omega⟩
            rw [Nat.add_sub_cancel] at HN
            go_wp2_with (first | (go_at_call 124; refine (HD.out _).mono ?_; rintro e w' ⟨rfl, rfl⟩) | (go_at_call 144; refine (lopens_any _ _).mono ?_; rintro e w' ⟨rfl, rfl⟩))
            go_roundw
            case rel => exact ⟨trivial, i + 1, m, dp', by have := HIM.out; omega, rfl, by go_num, by omega, by rw [← HF.out, HN.out]⟩
            case measure => simp [intOf]; omega
          · have HN := Lib.hid ((hs.trans (if_neg (fun h => hdp h.2))).trans (if_pos (.inl rfl)))
            clear hs
            go_wp2_with (first | (go_at_call 124; refine (HD.out _).mono ?_; rintro e w' ⟨rfl, rfl⟩) | (go_at_call 144; refine (lopens_any _ _).mono ?_; rintro e w' ⟨rfl, rfl⟩))
            go_ret
            exact ⟨ret_i (by rw [HI.out, ← HF.out, HN.out]), rfl⟩
        · have c22 : (d == 22) = false := by simpa using h22
          rw [if_neg (fun h => h22 h.1)] at hs
          by_cases h10 : d = 10
          · subst h10
            have HN := Lib.hid (hs.trans (if_pos (.inr rfl)))
            clear hs h22
            go_wp2_with (first | (go_at_call 124; refine (HD.out _).mono ?_; rintro e w' ⟨rfl, rfl⟩) | (go_at_call 144; refine (lopens_any _ _).mono ?_; rintro e w' ⟨rfl, rfl⟩))
            go_ret
            exact ⟨ret_i (by rw [HI.out, ← HF.out, HN.out]), rfl⟩
          · have c10 : (d == 10) = false := by simpa using h10
            rw [if_neg (fun h => h.elim h22 h10)] at hs
            clear h22 h10
            by_cases h0 : deep = 0
            · subst h0
              by_cases h3 : d = 0 ∨ d = 1 ∨ d = 2
              · have HN := Lib.hid (hs.trans (if_pos ⟨rfl, h3⟩))
                clear hs
                rcases h3 with h3 | h3 | h3
                all_goals
                  subst h3
                  go_wp2_with (first | (go_at_call 124; refine (HD.out _).mono ?_; rintro e w' ⟨rfl, rfl⟩) | (go_at_call 144; refine (lopens_any _ _).mono ?_; rintro e w' ⟨rfl, rfl⟩))
                  go_ret
                  exact ⟨ret_i (by rw [HI.out, ← HF.out, HN.out]), rfl⟩
              · have HN := Lib.hid (hs.trans (if_neg (fun h => h3 h.2)))
                have c0 : (d == 0) = false := by simp only [not_or] at h3; simpa using h3.1
                have c1 : (d == 1) = false := by simp only [not_or] at h3; simpa using h3.2.1
                have c2 : (d == 2) = false := by simp only [not_or] at h3; simpa using h3.2.2
                clear hs h3
                go_wp2_with (first | (go_at_call 124; refine (HD.out _).mono ?_; rintro e w' ⟨rfl, rfl⟩) | (go_at_call 144; refine (lopens_any _ _).mono ?_; rintro e w' ⟨rfl, rfl⟩))
                go_roundw
                case rel => exact ⟨trivial, i + 1, m, 0, by have := HIM.out; omega, rfl, by go_num, by omega, by rw [← HF.out, HN.out]⟩
                case measure => simp [intOf]; omega
            · have HN := Lib.hid (hs.trans (if_neg (fun h => h0 h.1)))
              have cd : ((deep : Int) == 0) = false := by simp only [beq_eq_false_iff_ne]; omega
              clear hs
              go_wp2_with (first | (go_at_call 124; refine (HD.out _).mono ?_; rintro e w' ⟨rfl, rfl⟩) | (go_at_call 144; refine (lopens_any _ _).mono ?_; rintro e w' ⟨rfl, rfl⟩))
              go_roundw
              case rel => exact ⟨trivial, i + 1, m, deep, by have := HIM.out; omega, rfl, by go_num, by omega, by rw [← HF.out, HN.out]⟩
              case measure => simp [intOf]; omega
    · have h0 : m = 0 := by have := HIM.out; omega
      have HZ : Hid ((13 : Int) = firstF ds n 0 0) := by subst h0; exact HF
      go_wp2_with (fail)
      go_ret
      exact ⟨ret_i (by rw [HI.out, ← HZ.out]), rfl⟩

set_option maxHeartbeats 1000000 in
theorem after_any (a : Option Addr) (ds : List Int) (n cap fr : Nat) (w : World) (hl : ds.length = n) (hd : Rd .i8 w a ds) (hn : n ≤ 2097152) (hfr : fr ≤ n) :
    Calls Tryz.prog 126 #[.slice a n cap, .int .i64 fr] w fun e w' => e = .returned (.int .i64 (afterF ds (n - fr) fr 0)) ∧ w' = w := by
  have HL := Lib.hid hl
  have HC := Lib.hid (fun i (hi : i < n) => hd.at (Below.refl _ _) i (by omega))
  clear hl hd
  go_enter Tryz.func126, Tryz.ntmps126
  go_wp2_with (fail)
  go_loopw [5, 6] (fun dp c wx => wx = w ∧ ∃ (i m deep : Nat), i + m = n ∧ dp = .int .i64 deep ∧ c = .int .i64 i ∧ deep ≤ i ∧ afterF ds m i deep = afterF ds (n - fr) fr 0) (fun _ c _ => n - (intOf c).toNat)
  case atStart => exact ⟨rfl, fr, n - fr, 0, by omega, rfl, rfl, by omega, rfl⟩
  case round =>
    obtain ⟨hwx, i, m, deep, him, rfl, rfl, hdi, hF⟩ := hrel
    have hwx' := hwx.symm
    clear hwx
    subst hwx'
    have HIM := Lib.hid him
    have HF := Lib.hid hF
    clear him hF
    by_cases hi : i < n
    · obtain ⟨m, rfl⟩ : ∃ q, m = q + 1 := ⟨m - 1, by have := HIM.out; omega⟩
      obtain ⟨G, o, rfl, _, hGc⟩ := HC.out i hi
      have hst : ∀ d, lkn (ith ds i) = d → afterF ds (m + 1) i deep = if opensB d = true then afterF ds m (i + 1) (deep + 1) else if d = 22 ∧ deep = 0 then (i : Int) + 1 else if d = 22 then afterF ds m (i + 1) (deep - 1)
          else if d = 10 then -1 else afterF ds m (i + 1) deep := fun d h => by rw [afterF, h]
      generalize ith ds i = y at hGc hst
      obtain ⟨d, hd⟩ : ∃ d, lkn y = d := ⟨_, rfl⟩
      have hs := hst d hd
      have HD : Hid (∀ W, Calls Tryz.prog 124 #[.int .i8 y] W fun e w' => e = .returned (.int .i8 d) ∧ W = w') := fun W => by rw [← hd]; exact lknown_any y W
      clear hst hd
      by_cases ho : opensB d = true
      · have HN := Lib.hid (hs.trans (if_pos ho))
        clear hs
        go_wp2_with (first | (go_at_call 124; refine (HD.out _).mono ?_; rintro e w' ⟨rfl, rfl⟩) | (go_at_call 144; refine (lopens_any _ _).mono ?_; rintro e w' ⟨rfl, rfl⟩))
        go_roundw
        case rel => exact ⟨trivial, i + 1, m, deep + 1, by have := HIM.out; omega, rfl, by go_num, by omega, by rw [← HF.out, HN.out]⟩
        case measure => simp [intOf]; omega
      · rw [if_neg ho] at hs
        have hof : opensB d = false := by simpa using ho
        clear ho
        by_cases h22 : d = 22
        · subst h22
          by_cases hdp : deep = 0
          · subst hdp
            have HN := Lib.hid (hs.trans (if_pos ⟨rfl, rfl⟩))
            clear hs
            go_wp2_with (first | (go_at_call 124; refine (HD.out _).mono ?_; rintro e w' ⟨rfl, rfl⟩) | (go_at_call 144; refine (lopens_any _ _).mono ?_; rintro e w' ⟨rfl, rfl⟩))
            go_ret
            exact ⟨ret_i (by rw [← HF.out, HN.out]), rfl⟩
          · have HN := Lib.hid ((hs.trans (if_neg (fun h => hdp h.2))).trans (if_pos rfl))
            clear hs
            obtain ⟨dp', rfl⟩ : ∃ q, deep = q + 1 := ⟨deep - 1, by omega⟩
            rw [Nat.add_sub_cancel] at HN
            have cd : (((dp' + 1 : Nat) : Int) == 0) = false := by simp only [beq_eq_false_iff_ne]; omega
            go_wp2_with (first | (go_at_call 124; refine (HD.out _).mono ?_; rintro e w' ⟨rfl, rfl⟩) | (go_at_call 144; refine (lopens_any _ _).mono ?_; rintro e w' ⟨rfl, rfl⟩))
            go_roundw
            case rel => exact ⟨trivial, i + 1, m, dp', by have := HIM.out; omega, rfl, by go_num, by omega, by rw [← HF.out, HN.out]⟩
            case measure => simp [intOf]; omega
        · have c22 : (d == 22) = false := by simpa using h22
          rw [if_neg (fun h => h22 h.1), if_neg h22] at hs
          by_cases h10 : d = 10
          · subst h10
            have HN := Lib.hid (hs.trans (if_pos rfl))
            clear hs h22
            go_wp2_with (first | (go_at_call 124; refine (HD.out _).mono ?_; rintro e w' ⟨rfl, rfl⟩) | (go_at_call 144; refine (lopens_any _ _).mono ?_; rintro e w' ⟨rfl, rfl⟩))
            go_ret
            exact ⟨ret_i (by rw [← HF.out, HN.out]), rfl⟩
          · have c10 : (d == 10) = false := by simpa using h10
            have HN := Lib.hid (hs.trans (if_neg h10))
            clear h22 h10 hs
            go_wp2_with (first | (go_at_call 124; refine (HD.out _).mono ?_; rintro e w' ⟨rfl, rfl⟩) | (go_at_call 144; refine (lopens_any _ _).mono ?_; rintro e w' ⟨rfl, rfl⟩))
            go_roundw
            case rel => exact ⟨trivial, i + 1, m, deep, by have := HIM.out; omega, rfl, by go_num, by omega, by rw [← HF.out, HN.out]⟩
            case measure => simp [intOf]; omega
    · have h0 : m = 0 := by have := HIM.out; omega
      have HZ : Hid ((-1 : Int) = afterF ds (n - fr) fr 0) := by subst h0; exact HF
      go_wp2_with (fail)
      go_ret
      exact ⟨ret_i (by rw [← HZ.out]), rfl⟩
end
section
set_option linter.unusedVariables false
set_option linter.unusedSimpArgs false
open Go.RowKit

theorem afterF_bd (ds : List Int) : ∀ (m i deep : Nat), afterF ds m i deep = -1 ∨ ((i : Int) + 1 ≤ afterF ds m i deep ∧ afterF ds m i deep ≤ (i : Int) + m)
  | 0, i, deep => .inl rfl
  | m + 1, i, deep => by
    have h1 := afterF_bd ds m (i + 1) (deep + 1)
    have h2 := afterF_bd ds m (i + 1) (deep - 1)
    have h3 := afterF_bd ds m (i + 1) deep
    unfold afterF
    split
    · rcases h1 with h | h
      · exact .inl h
      · exact .inr (by omega)
    · split
      · exact .inr (by omega)
      · split
        · rcases h2 with h | h
          · exact .inl h
          · exact .inr (by omega)
        · split
          · exact .inl rfl
          · rcases h3 with h | h
            · exact .inl h
            · exact .inr (by omega)
theorem skipF_bd (ds : List Int) : ∀ (m i : Nat), i ≤ skipF ds m i ∧ skipF ds m i ≤ i + m
  | 0, i => ⟨Nat.le_refl _, Nat.le_refl _⟩
  | m + 1, i => by
    have := skipF_bd ds m (i + 1)
    unfold skipF
    split <;> omega
theorem rd_drop {k : IntKind} {w : World} {b o : Nat} {xs : List Int} (h : Rd k w (some ⟨b, o, none⟩) xs) (i : Nat) : Rd k w (some ⟨b, o + i, none⟩) (xs.drop i) := by
  rcases h with h | ⟨b', o', h1, h2, h3⟩
  · subst h; exact .inl (by simp)
  · cases h1
    refine .inr ⟨b, o + i, rfl, h2, fun j hj => ?_⟩
    rw [List.length_drop] at hj
    have := h3 (i + j) (by omega)
    rw [show o + i + j = o + (i + j) by omega, this]
    congr 2
    simp [ith]

set_option maxRecDepth 100000 in
set_option maxHeartbeats 400000 in
theorem Base_fuel (want : Int) (w : World) : ∀ (f : Nat) (a : Option Addr) (ds : List Int) (n cap : Nat), ds.length = n → n < f → Rd .i8 w a ds → n ≤ 2097152 → n ≤ cap → cap ≤ maxLen →
    Calls Tryz.prog 101 #[.slice a n cap, .int .i8 want] w fun e w' => e = .returned (.int .u8 (baseF want f ds)) ∧ w' = w
  | 0, _, _, _, _, _, h, _, _, _, _ => absurd h (by omega)
  | f + 1, a, ds, n, cap, hl, hf, hd, hn, hc, hm => by
    unfold maxLen at hm
    have ih := Base_fuel want w f
    have IH := Lib.hid ih
    clear ih
    have HL := Lib.hid hl
    have HDR := Lib.hid hd
    have HC := Lib.hid (fun i (hi : i < n) => hd.at (Below.refl _ _) i (by omega))
    obtain ⟨V, hB⟩ : ∃ V, baseF want (f + 1) ds = V := ⟨_, rfl⟩
    rw [hB]
    rw [baseF, hl] at hB
    clear hl hd
    go_enter Tryz.func101, Tryz.ntmps101
    by_cases h1 : want = 1
    · subst h1
      rw [if_pos rfl] at hB
      have HB := Lib.hid hB
      clear hB
      go_wp2_with (fail)
      go_ret
      exact ⟨ret_i HB.out, rfl⟩
    · rw [if_neg h1] at hB
      have b1 : (want == 1) = false := by simpa using h1
      clear h1
      by_cases h2 : want = 2
      · subst h2
        rw [if_pos rfl] at hB
        have HB := Lib.hid hB
        clear hB
        go_wp2_with (fail)
        go_ret
        exact ⟨ret_i HB.out, rfl⟩
      · rw [if_neg h2] at hB
        have b2 : (want == 2) = false := by simpa using h2
        clear h2
        obtain ⟨S, hS⟩ : ∃ S, skipF ds n 0 = S := ⟨_, rfl⟩
        have hSn := (skipF_bd ds n 0).2
        rw [hS] at hB hSn
        have HB := Lib.hid hB
        have HS := Lib.hid hS
        clear hB hS
        go_wp2_with (fail)
        go_loopw [16] (fun c wx => wx = w ∧ ∃ (i m : Nat), i + m = n ∧ c = .int .i64 i ∧ skipF ds m i = S) (fun c _ => n - (intOf c).toNat)
        case atStart => exact ⟨rfl, 0, n, by omega, rfl, HS.out⟩
        case round =>
          obtain ⟨hwx, i, m, him, rfl, hF⟩ := hrel
          have hwx' := hwx.symm
          clear hwx
          subst hwx'
          have HIM := Lib.hid him
          have HF := Lib.hid hF
          clear him hF
          by_cases hi : i < n
          · obtain ⟨m, rfl⟩ : ∃ q, m = q + 1 := ⟨m - 1, by have := HIM.out; omega⟩
            obtain ⟨G, o, rfl, hGl, hGc⟩ := HC.out i hi
            have hst : ∀ d, lkn (ith ds i) = d → skipF ds (m + 1) i = if d = 22 then skipF ds m (i + 1) else i := fun d h => by rw [skipF, h]
            have hlk : ∀ d, lkn (ith ds i) = d → lkn (ith ds i) = d := fun d h => h
            generalize hy : ith ds i = y at hGc hst hlk
            obtain ⟨d, hd⟩ : ∃ d, lkn y = d := ⟨_, rfl⟩
            have hs := hst d hd
            have HD : Hid (∀ W, Calls Tryz.prog 124 #[.int .i8 y] W fun e w' => e = .returned (.int .i8 d) ∧ W = w') := fun W => by rw [← hd]; exact lknown_any y W
            have HYD := Lib.hid (show lkn (ith ds i) = d by rw [hy]; exact hd)
            clear hst hd hlk hy
            by_cases h22 : d = 22
            · have HN := Lib.hid (hs.trans (if_pos h22))
              subst h22
              clear hs
              go_wp2_with (go_at_call 124; refine (HD.out _).mono ?_; rintro e w' ⟨rfl, rfl⟩)
              go_roundw
              case rel => exact ⟨trivial, i + 1, m, by have := HIM.out; omega, by go_num, by rw [← HF.out, HN.out]⟩
              case measure => simp [intOf]; omega
            · have hiS : i = S := (hs.trans (if_neg h22)).symm.trans HF.out
              have c22 : (d == 22) = false := by simpa using h22
              clear hs h22
              subst hiS
              have hB := HB.out
              clear HB HS HF
              rw [if_neg (by omega), HYD.out] at hB
              by_cases h10 : d = 10
              · rw [if_pos h10] at hB
                have HB := Lib.hid hB
                subst h10
                clear hB
                go_wp2_with (go_at_call 124; refine (HD.out _).mono ?_; rintro e w' ⟨rfl, rfl⟩)
                go_ret
                exact ⟨ret_i HB.out, rfl⟩
              · rw [if_neg h10] at hB
                have c10 : (d == 10) = false := by simpa using h10
                have HFI := Lib.hid (first_any (some ⟨G, o + i, none⟩) (ds.drop i) (n - i) (cap - i) w (by rw [List.length_drop, HL.out]) (rd_drop HDR.out i) (by omega))
                obtain ⟨R, hR⟩ : ∃ R, firstI (ds.drop i) = R := ⟨_, rfl⟩
                rw [hR] at hB HFI
                have HB := Lib.hid hB
                have g1 : (i : Int) ≤ (n : Int) := by omega
                have g2 : (n : Int) ≤ (cap : Int) := by omega
                have g3 : ¬ cap = i := by omega
                clear hB hR h10
                go_upto_region 14 with (first | (go_at_call 124; refine (HD.out _).mono ?_; rintro e w' ⟨rfl, rfl⟩) | (go_at_call 125; refine (HFI.out).mono ?_; rintro e w' ⟨rfl, hw'⟩; have hw2 := hw'.symm; clear hw'; subst hw2))
                by_cases h13 : R = 13
                · subst h13
                  have hB := HB.out
                  clear HB
                  rw [if_pos rfl] at hB
                  have HAF := Lib.hid (after_any (some ⟨G, o, none⟩) ds n cap i w HL.out HDR.out hn (by omega))
                  have hbd := afterF_bd ds (n - i) i 0
                  obtain ⟨A, hA⟩ : ∃ A, afterF ds (n - i) i 0 = A := ⟨_, rfl⟩
                  rw [hA] at hB HAF hbd
                  by_cases hlt : (i : Int) < A
                  · rw [if_pos hlt] at hB
                    obtain ⟨p, rfl⟩ : ∃ p : Nat, A = (p : Int) := Int.eq_ofNat_of_zero_le (by omega)
                    rw [Int.toNat_natCast] at hB
                    have HB := Lib.hid hB
                    have g4 : (p : Int) ≤ (n : Int) := by omega
                    have g5 : (0 : Int) ≤ (p : Int) := by omega
                    clear hB hA
                    by_cases hcp : cap = p
                    · have hpn : p = n := by omega
                      subst hpn
                      subst hcp
                      have hnil : ds.drop cap = [] := by rw [List.drop_eq_nil_iff]; have := HL.out; omega
                      have hB2 := HB.out
                      rw [hnil] at hB2
                      have HREC := Lib.hid (IH.out (some ⟨G, o, none⟩) [] 0 0 rfl (by omega) (.inl rfl) (by omega) (by omega) (by unfold maxLen; omega))
                      rw [hB2] at HREC
                      clear hbd hB2 hnil
                      go_upto_region 17 with (go_at_call 126; refine (HAF.out).mono ?_; rintro e w' ⟨rfl, hw'⟩; have hw2 := hw'.symm; clear hw'; subst hw2)
                      go_wp2_with (go_at_call 101; refine (HREC.out).mono ?_; rintro e w' ⟨rfl, hw'⟩; have hw2 := hw'.symm; clear hw'; subst hw2)
                      go_ret
                      exact ⟨rfl, rfl⟩
                    · have HREC := Lib.hid (IH.out (some ⟨G, o + p, none⟩) (ds.drop p) (n - p) (cap - p) (by rw [List.length_drop, HL.out]) (by omega) (rd_drop HDR.out p) (by omega) (by omega) (by unfold maxLen; omega))
                      rw [HB.out] at HREC
                      clear hbd
                      go_upto_region 17 with (go_at_call 126; refine (HAF.out).mono ?_; rintro e w' ⟨rfl, hw'⟩; have hw2 := hw'.symm; clear hw'; subst hw2)
                      go_wp2_with (go_at_call 101; refine (HREC.out).mono ?_; rintro e w' ⟨rfl, hw'⟩; have hw2 := hw'.symm; clear hw'; subst hw2)
                      go_ret
                      exact ⟨rfl, rfl⟩
                  · rw [if_neg hlt] at hB
                    have HB := Lib.hid hB
                    clear hB hA hbd
                    go_wp2_with (go_at_call 126; refine (HAF.out).mono ?_; rintro e w' ⟨rfl, hw'⟩; have hw2 := hw'.symm; clear hw'; subst hw2)
                    go_ret
                    exact ⟨ret_i HB.out, rfl⟩
                · have hB := HB.out
                  rw [if_neg h13] at hB
                  have c13 : (R == 13) = false := by simpa using h13
                  clear HB h13
                  by_cases h0 : R = 0
                  · rw [if_neg (fun h => h h0)] at hB
                    have HB := Lib.hid hB
                    have c0 : (R != 0) = false := by simpa using h0
                    clear hB h0
                    go_wp2_with (fail)
                    go_ret
                    exact ⟨ret_i HB.out, rfl⟩
                  · rw [if_pos h0] at hB
                    have HB := Lib.hid hB
                    have c0 : (R != 0) = true := by simpa using h0
                    clear hB h0
                    go_wp2_with (fail)
                    go_ret
                    exact ⟨ret_i HB.out, rfl⟩
          · have h0 : m = 0 := by have := HIM.out; omega
            have hiS : i = S := by have := HF.out; rw [h0] at this; exact this
            have hin : i = n := by have := HIM.out; omega
            have hB := HB.out
            rw [if_pos (by omega)] at hB
            have HB2 := Lib.hid hB
            clear hB HB
            go_wp2_with (fail)
            go_ret
            exact ⟨ret_i HB2.out, rfl⟩
theorem Base_any (want : Int) (a : Option Addr) (ds : List Int) (n cap : Nat) (w : World) (hl : ds.length = n) (hd : Rd .i8 w a ds) (hn : n ≤ 2097152) (hc : n ≤ cap) (hm : cap ≤ maxLen) :
    Calls Tryz.prog 101 #[.slice a n cap, .int .i8 want] w fun e w' => e = .returned (.int .u8 (baseI ds want)) ∧ w' = w := by
  subst hl
  exact Base_fuel want w (ds.length + 1) a ds ds.length cap rfl (by omega) hd hn hc hm
end
section
set_option linter.unusedVariables false
set_option linter.unusedSimpArgs false
open Go.RowKit

theorem Tryz.info_int : (Tryz.prog.info? 3).map (fun i => (i.zero, i.size, i.bytes)) = some (some (.int .i64 0), 1, 8) := by kernel_rfl
def LPairsPost (ds : List Int) (n : Nat) (w : World) (e : Ending) (w' : World) : Prop :=
  e = .returned (.slice (some ⟨w.heap.size, 0, none⟩) n n) ∧ (pairsI ds).length = n ∧ OutAt .i64 3 w' w.heap.size (some ⟨w.heap.size, 0, none⟩) n (pairsI ds) ∧ Below w.heap.size w w'
theorem rep_zero (n i : Nat) (h : i < n) : ith (List.replicate n 0) i = 0 := by
  unfold ith; rw [List.getD_eq_getElem?_getD]; simp [h]

theorem lp_kept {k : IntKind} {e base cap B : Nat} {w2 w6 : World} {ob : Obj} {out : List Int} {row : Option Nat} (h : OutAt k e w2 base (some ⟨B, 0, none⟩) cap out) (hg : (w2.alloc ob).grownBy w6 row) (hr : ∀ j, row = some j → B < j) : OutAt k e w6 base (some ⟨B, 0, none⟩) cap out := by
  refine World.ownsRow.kept (World.ownsRow.alloc h ob) hg (.inr fun e => ?_)
  have := hr B e.symm
  omega
theorem lp_two {w w2 : World} {t GO oc n L : Nat} {opn : List Nat} {out : List Int} (hO : OutAt .i64 t w2 w.heap.size (some ⟨w.heap.size, 0, none⟩) n out)
    (hown : w2.ownsRow (w.heap.size + 1) t 1 (.slice (some ⟨GO, 0, none⟩) opn.length oc) opn.length (nats opn)) (hb : Below w.heap.size w w2) (hL : opn.length = L + 1) (hs : w.heap.size + 1 ≤ w2.heap.size) (i j : Nat) :
    ((w2.setCell ⟨w.heap.size, i, none⟩ (.int .i64 j)).setCell ⟨w.heap.size, j, none⟩ (.int .i64 i)).drew.ownsRow (w.heap.size + 1) t 1 (.slice (some ⟨GO, 0, none⟩) L oc) (opn.take L).length (nats (opn.take L)) ∧
    OutAt .i64 t ((w2.setCell ⟨w.heap.size, i, none⟩ (.int .i64 j)).setCell ⟨w.heap.size, j, none⟩ (.int .i64 i)).drew w.heap.size (some ⟨w.heap.size, 0, none⟩) n ((out.set i (j : Int)).set j (i : Int)) ∧
    w.heap.size + 1 ≤ ((w2.setCell ⟨w.heap.size, i, none⟩ (.int .i64 j)).setCell ⟨w.heap.size, j, none⟩ (.int .i64 i)).drew.heap.size ∧
    Below w.heap.size w ((w2.setCell ⟨w.heap.size, i, none⟩ (.int .i64 j)).setCell ⟨w.heap.size, j, none⟩ (.int .i64 i)).drew := by
  have h1 := ownsRow_setCell_below (ownsRow_setCell_below hown (show (⟨w.heap.size, i, none⟩ : Addr).block < w.heap.size + 1 from Nat.lt_succ_self _) (.int .i64 j)) (show (⟨w.heap.size, j, none⟩ : Addr).block < w.heap.size + 1 from Nat.lt_succ_self _) (.int .i64 i)
  refine ⟨?_, (hO.set i j).set j i, by simpa [World.setCell] using hs, ((hb.setCell (p := ⟨w.heap.size, i, none⟩) (Nat.le_refl _) _).setCell (p := ⟨w.heap.size, j, none⟩) (Nat.le_refl _) _).drew⟩
  have h2 := ownsRow_take (k := L) h1 (by omega) (by omega) (by unfold nats; simp)
  have e1 : (opn.take L).length = L := by rw [List.length_take]; omega
  have e2 : nats (opn.take L) = (nats opn).take (L * 1) := by unfold nats; rw [List.map_take, Nat.mul_one]
  rw [e1, e2]
  exact h2
set_option maxRecDepth 100000 in
set_option maxHeartbeats 400000 in
theorem LPairs_any (a : Option Addr) (ds : List Int) (n cap : Nat) (w : World) (hl : ds.length = n) (hd : Rd .i8 w a ds) (hn : n ≤ 2097152) :
    Calls Tryz.prog 151 #[.slice a n cap] w (LPairsPost ds n w) := by
  obtain ⟨i3, hi3, hz3, ha3, hb3⟩ := info_parts (Tryz.info_int)
  have HL := Lib.hid hl
  have HI : Hid (pairsI ds = pairsF ds n 0 [] (List.replicate n 0)) := by rw [← hl]; rfl
  clear hl
  go_enter Tryz.func151, Tryz.ntmps151
  have hmk := run_make_row (P := Tryz.prog) 56 3 i3 (.int .i64 0) Tryz.underlying56 hi3 hz3 ha3 rfl .i64 .i64 n (by rw [hb3]; omega) (by omega)
  go_wp2_with (fail)
  clear hmk
  have hrow0 := World.rowIs_made w (.int .i64 0) n 3
  have hO0 : OutAt .i64 3 (w.alloc (.cells (madeCells #[.int .i64 0] n) 3)) w.heap.size (some ⟨w.heap.size, 0, none⟩) n (List.replicate n 0) :=
    out_of_row (hrow0.congr fun i hi => by rw [rep_zero n i hi]) (by simp) (Nat.le_refl _) (by unfold maxLen; omega)
  have hb0 := (Below.refl w.heap.size w).alloc (Nat.le_refl _) (.cells (madeCells #[.int .i64 0] n) 3)
  clear hrow0
  go_loopw [4, 13] (fun ov c wx => ∃ (i m : Nat) (opn : List Nat) (out : List Int), i + m = n ∧ c = .int .i64 i ∧ wx.ownsRow (w.heap.size + 1) 3 1 ov opn.length (nats opn) ∧
      out.length = n ∧ OutAt .i64 3 wx w.heap.size (some ⟨w.heap.size, 0, none⟩) n out ∧ (∀ p ∈ opn, p < i) ∧ opn.length ≤ i ∧ w.heap.size + 1 ≤ wx.heap.size ∧ Below w.heap.size w wx ∧ pairsF ds m i opn out = pairsI ds) (fun _ c _ => n - (intOf c).toNat)
  case atStart => exact ⟨0, n, [], List.replicate n 0, by omega, rfl, World.ownsRow_nil _ _ _ _, by simp, hO0, by simp, by simp, by simp, hb0, HI.out.symm⟩
  case round =>
    obtain ⟨i, m, opn, out, him, rfl, hown, hol, hO, hlt', hoi, hsz, hbel, hF⟩ := hrel
    have HIM := Lib.hid him
    have HF := Lib.hid hF
    have HOL := Lib.hid hol
    have HLT := Lib.hid hlt'
    clear him hF hol hlt' hO0 hb0
    obtain ⟨oa, oc, hov, hoc, hocm⟩ := own_slice hown
    subst hov
    by_cases hi : i < n
    · obtain ⟨m, rfl⟩ : ∃ q, m = q + 1 := ⟨m - 1, by have := HIM.out; omega⟩
      obtain ⟨G, o, rfl, hGl, hGc⟩ := hd.at hbel i (by have := HL.out; omega)
      obtain ⟨G', hG', _, _, hXc, hXf, _, _⟩ := hO.at i (by have := HOL.out; omega)
      cases hG'
      have hst : ∀ d, lkn (ith ds i) = d → pairsF ds (m + 1) i opn out = if opensB d = true then pairsF ds m (i + 1) (opn ++ [i]) (out.set i (-1)) else if d = 10 then pairsF ds m (i + 1) [] (out.set i (-1))
          else if d = 22 ∧ 0 < opn.length then pairsF ds m (i + 1) (opn.take (opn.length - 1)) (((out.set i (-1)).set i (opn.getD (opn.length - 1) 0)).set (opn.getD (opn.length - 1) 0) i) else pairsF ds m (i + 1) opn (out.set i (-1)) := fun d h => by rw [pairsF, h]
      generalize ith ds i = y at hGc hst
      obtain ⟨d, hd'⟩ : ∃ d, lkn y = d := ⟨_, rfl⟩
      have hs := hst d hd'
      have HD : Hid (∀ W, Calls Tryz.prog 124 #[.int .i8 y] W fun e w' => e = .returned (.int .i8 d) ∧ W = w') := fun W => by rw [← hd']; exact lknown_any y W
      clear hst hd'
      go_upto_region 7 with (fail)
      obtain ⟨w2, hw2⟩ : ∃ w2, w2 = wr.setCell ⟨w.heap.size, i, none⟩ (.int .i64 (-1)) := ⟨_, rfl⟩
      rw [← hw2]
      have hO2 : OutAt .i64 3 w2 w.heap.size (some ⟨w.heap.size, 0, none⟩) n (out.set i (-1)) := by rw [hw2]; exact hO.set i (-1)
      have hb2 : Below w.heap.size w w2 := by rw [hw2]; exact hbel.setCell (p := ⟨w.heap.size, i, none⟩) (Nat.le_refl _) (.int .i64 (-1))
      have hown2 : w2.ownsRow (w.heap.size + 1) 3 1 (.slice oa opn.length oc) opn.length (nats opn) := by
        rw [hw2]; exact ownsRow_setCell_below hown (show (⟨w.heap.size, i, none⟩ : Addr).block < w.heap.size + 1 from Nat.lt_succ_self _) (.int .i64 (-1))
      have hsz2 : w.heap.size + 1 ≤ w2.heap.size := by rw [hw2]; simpa [World.setCell] using hsz
      have hGc2 : w2.cell? ⟨G, o + i, none⟩ = some (.int .i8 y) := by
        rw [hw2]
        exact (World.cell?_of_block (heap_setCell_other wr ⟨w.heap.size, i, none⟩ G (.int .i64 (-1)) (by show G ≠ w.heap.size; omega))).trans hGc
      clear hO hbel hown hsz hGc hXc hXf hw2
      go_upto_region 8 with (go_at_call 124; refine (HD.out _).mono ?_; rintro e w' ⟨rfl, hw'⟩; subst hw')
      have hlen2 : (out.set i (-1)).length = n := by rw [List.length_set]; exact HOL.out
      have HL2 := Lib.hid hlen2
      have HO2 := Lib.hid hO2
      have HB2 := Lib.hid hb2
      have HOW2 := Lib.hid hown2
      clear hlen2 hO2 hb2 hown2 hGc2
      by_cases ho : opensB d = true
      · have HN := Lib.hid (hs.trans (if_pos ho))
        clear hs
        go_wp2_with (first | (go_at_call 144; refine (lopens_any _ _).mono ?_; rintro e w' ⟨rfl, hw'⟩; subst hw') | (at_builtin; refine wpList_append_own _ rfl (.tmp 27) (.tmp 29) 56 rfl (w.heap.size + 1) 3 i3 (.int .i64 0) 1 8 Tryz.underlying56 hi3 hz3 ha3 hb3 rfl (by decide) (.slice oa opn.length oc) opn.length _ rfl (HOW2.out.alloc _) ⟨w2.heap.size, 0, none⟩ 1 1 [.int .i64 i] rfl rfl (cell_one_new _ _ _) (by simp [Value.oneCell']) (by unfold maxLen; omega) (by omega) (by simp; omega) ?_; intro v6 w6 hown6 hg6 _))
        have hO6 := lp_kept HO2.out hg6 (fun k hk => by have := (HOW2.out.lt k hk).1; omega)
        have hb6 := (HB2.out.alloc HB2.out.size _).grown hg6 (by simp; omega) (fun k hk => by have := (HOW2.out.lt k hk).1; omega)
        have hs6 : w.heap.size + 1 ≤ w6.heap.size := by have := hg6.size; rw [World.size_alloc] at this; omega
        clear hg6
        go_roundw
        case rel => exact ⟨i + 1, m, opn ++ [i], out.set i (-1), by have := HIM.out; omega, by go_num, by rw [nats_snoc, List.length_append, List.length_singleton]; exact hown6, HL2.out, hO6, fun p hp => by
          rw [List.mem_append, List.mem_singleton] at hp
          rcases hp with hp | hp
          · have := HLT.out p hp; omega
          · omega, by rw [List.length_append, List.length_singleton]; omega, hs6, hb6, by rw [← HF.out, HN.out]⟩
        case measure => simp [intOf]; omega
      · rw [if_neg ho] at hs
        have hof : opensB d = false := by simpa using ho
        clear ho
        by_cases h10 : d = 10
        · have HN := Lib.hid (hs.trans (if_pos h10))
          subst h10
          clear hs
          go_wp2_with (go_at_call 144; refine (lopens_any _ _).mono ?_; rintro e w' ⟨rfl, hw'⟩; subst hw')
          go_roundw
          case rel => exact ⟨i + 1, m, [], out.set i (-1), by have := HIM.out; omega, by go_num, World.ownsRow_nil _ _ _ _, HL2.out, HO2.out, by simp, by simp, hsz2, HB2.out, by rw [← HF.out, HN.out]⟩
          case measure => simp [intOf]; omega
        · rw [if_neg h10] at hs
          have c10 : (d == 10) = false := by simpa using h10
          clear h10
          by_cases h22 : d = 22 ∧ 0 < opn.length
          · have HN := Lib.hid (hs.trans (if_pos h22))
            obtain ⟨rfl, hlen⟩ := h22
            clear hs
            obtain ⟨L, hL⟩ : ∃ L, opn.length = L + 1 := ⟨opn.length - 1, by omega⟩
            obtain ⟨GO, hoa, hGO1, hGO2, hcells⟩ := own_cells HOW2.out hlen
            subst hoa
            obtain ⟨j, hj⟩ : ∃ j, opn.getD L 0 = j := ⟨_, rfl⟩
            have hoc2 := hcells L (by omega)
            have hnl : (nats opn)[L]? = some (.int .i64 (j : Int)) := by
              unfold nats
              rw [List.getElem?_map, List.getElem?_eq_getElem (by omega), ← hj, List.getD_eq_getElem?_getD, List.getElem?_eq_getElem (by omega)]
              rfl
            rw [hnl] at hoc2
            have hjm : j ∈ opn := by rw [← hj, List.getD_eq_getElem?_getD, List.getElem?_eq_getElem (by omega)]; exact List.getElem_mem _
            have hji : j < i := HLT.out j hjm
            obtain ⟨G1, hG1, _, _, hXi, hFi, _, _⟩ := HO2.out.at i (by have := HL2.out; omega)
            cases hG1
            obtain ⟨G1, hG1, _, _, hXj, hFj, _, _⟩ := HO2.out.at j (by have := HL2.out; omega)
            cases hG1
            rw [hL, Nat.add_sub_cancel, hj] at HN
            have HLL := Lib.hid hL
            clear hcells hnl hjm hj
            generalize ith (out.set i (-1)) i = vi at hXi
            generalize ith (out.set i (-1)) j = vj at hXj
            go_upto_region 13 with (go_at_call 144; refine (lopens_any _ _).mono ?_; rintro e w' ⟨rfl, hw'⟩; subst hw')
            go_cut [7] (fun t wx => t = .int .i64 L ∧ wx = w2)
            case first =>
              clear hXi hXj hFi hFj hoc2
              go_wp2_with (fail)
              all_goals (go_meet; exact ⟨by go_num, rfl⟩)
            case rest =>
              obtain ⟨rfl, hwx⟩ := hcut
              have hwx' := hwx.symm
              clear hwx
              subst hwx'
              have gL0 : (0 : Int) ≤ (L : Int) := by omega
              have gL1 : (L : Int) < (opn.length : Int) := by omega
              have gL2 : (L : Int) < (L : Int) + 1 := by omega
              have gj0 : (0 : Int) ≤ (j : Int) := by omega
              have gj1 : (j : Int) < (n : Int) := by omega
              have gi0 : (0 : Int) ≤ (i : Int) := by omega
              have gi1 : (i : Int) < (n : Int) := by omega
              have hne1 : GO ≠ w.heap.size := by omega
              have hne2 : w.heap.size ≠ GO := by omega
              have hij1 : i ≠ j := by omega
              have hij2 : j ≠ i := by omega
              have hLc : (L : Int) ≤ (oc : Int) := by omega
              clear hL
              go_upto_region 14 with (fail)
              go_region_held3 (fun w' => w'.cell? ⟨GO, L, none⟩ = some (.int .i64 j)) (go_keep) (fail)
              all_goals
                have HO6 := Lib.hid (lp_two HO2.out HOW2.out HB2.out HLL.out hsz2 i j)
                clear hXi hXj hFi hFj hoc2
                go_wp2_with (fail)
                go_roundw
                case rel => exact ⟨i + 1, m, opn.take L, ((out.set i (-1)).set i (j : Int)).set j (i : Int), by have := HIM.out; omega, by go_num, HO6.out.1, by rw [List.length_set, List.length_set]; exact HL2.out, HO6.out.2.1, fun p hp => by have := HLT.out p (List.mem_of_mem_take hp); omega, by rw [List.length_take]; omega, HO6.out.2.2.1, HO6.out.2.2.2, by rw [← HF.out, HN.out]⟩
                case measure => simp [intOf]; omega
          · have HN := Lib.hid (hs.trans (if_neg h22))
            have hkeep : ∀ p ∈ opn, p < i + 1 := fun p hp => by have := HLT.out p hp; omega
            have HKP := Lib.hid hkeep
            clear hs hkeep
            by_cases h2 : d = 22
            · have hl0 : ¬ 0 < opn.length := fun h => h22 ⟨h2, h⟩
              subst h2
              clear h22
              go_wp2_with (go_at_call 144; refine (lopens_any _ _).mono ?_; rintro e w' ⟨rfl, hw'⟩; subst hw')
              go_roundw
              case rel => exact ⟨i + 1, m, opn, out.set i (-1), by have := HIM.out; omega, by go_num, HOW2.out, HL2.out, HO2.out, HKP.out, by omega, hsz2, HB2.out, by rw [← HF.out, HN.out]⟩
              case measure => simp [intOf]; omega
            · have c22 : (d == 22) = false := by simpa using h2
              clear h22 h2
              go_wp2_with (go_at_call 144; refine (lopens_any _ _).mono ?_; rintro e w' ⟨rfl, hw'⟩; subst hw')
              go_roundw
              case rel => exact ⟨i + 1, m, opn, out.set i (-1), by have := HIM.out; omega, by go_num, HOW2.out, HL2.out, HO2.out, HKP.out, by omega, hsz2, HB2.out, by rw [← HF.out, HN.out]⟩
              case measure => simp [intOf]; omega
    · have hm0 : m = 0 := by have := HIM.out; omega
      have HZ : Hid (out = pairsI ds) := by subst hm0; exact HF
      go_wp2_with (fail)
      go_ret
      exact ⟨rfl, by rw [← HZ.out]; exact HOL.out, by rw [← HZ.out]; exact hO, hbel⟩
end
section
set_option linter.unusedVariables false
set_option linter.unusedSimpArgs false
open Go.RowKit

theorem st_field0 (x y z : Value) (w : World) : Sem.run Tryz.prog (Instr.field 215 (.agg #[x, y, z]) 0) w = .ok x w := by kernel_rfl
theorem st_field1 (x y z : Value) (w : World) : Sem.run Tryz.prog (Instr.field 215 (.agg #[x, y, z]) 1) w = .ok y w := by kernel_rfl
theorem st_field2 (x y z : Value) (w : World) : Sem.run Tryz.prog (Instr.field 215 (.agg #[x, y, z]) 2) w = .ok z w := by kernel_rfl
def stV (s : LSt) : Value := .agg #[.int .u8 s.level, .int .i8 s.over, .bool s.iso]
set_option maxHeartbeats 400000 in
theorem top_any (w : World) (base p R : Nat) (P : LPile) (h : PileAt w base p R P) (hne : 0 < P.states.length) :
    Calls Tryz.prog 145 #[.pointer (some ⟨p, 0, none⟩)] w fun e w' => e = .returned (stV P.top) ∧ Below w.heap.size w w' := by
  obtain ⟨N, cap, hp, hR, hb1, hb2, hne', hlc, hcm, hcN⟩ := h
  obtain ⟨L, hL⟩ : ∃ L, P.states.length = L + 1 := ⟨P.states.length - 1, by omega⟩
  obtain ⟨t0, t1, t2⟩ := pile_top hR hL
  have hRl := hR.lt
  obtain ⟨n, hn⟩ : ∃ n, P.states.length = n := ⟨_, rfl⟩
  rw [hn] at hp hlc
  obtain ⟨c0, _, _, _, _, hpl⟩ := pile_cells hp
  unfold maxLen at hcm
  have gL0 : (0 : Int) ≤ (L : Int) := by omega
  have gL1 : (L : Int) < (n : Int) := by omega
  have hLc : (n : Int) ≤ (cap : Int) := by omega
  have hwr : IntKind.i64.wrap ((n : Int) - 1) = (L : Int) := by rw [IntKind.wrap_i64]; omega
  unfold stV
  generalize P.top = s at t0 t1 t2 ⊢
  clear hR hp hL hne hcN hn
  go_enter Tryz.func145, Tryz.ntmps145
  go_upto_region 1 with (fail)
  go_region_held3 (fun w' => w'.cell? ⟨p, 0, none⟩ = some (.slice (some ⟨R, 0, none⟩) n cap) ∧ w'.cell? ⟨R, L * 3, none⟩ = some (.int .u8 s.level) ∧ w'.cell? ⟨R, L * 3 + 1, none⟩ = some (.int .i8 s.over) ∧ w'.cell? ⟨R, L * 3 + 2, none⟩ = some (.bool s.iso)) (go_keep) (fail)
  go_wp2_with (fail)
  refine bodyPost_ret (results_cell_row rfl _ _ w.heap.size _ _ _ _ rfl (heap_alloc_new w _) Tryz.underlying215 rfl (by kernel_rfl)) rfl ⟨rfl, ?_⟩
  exact ((Below.refl w.heap.size w).alloc (Nat.le_refl _) _).drew
set_option maxRecDepth 100000 in
set_option maxHeartbeats 400000 in
theorem said_any (w : World) (base p R : Nat) (P : LPile) (d : Int) (h : PileAt w base p R P) (hne : 0 < P.states.length) :
    Calls Tryz.prog 146 #[.pointer (some ⟨p, 0, none⟩), .int .i8 d] w fun e w' => e = .returned (.int .i8 (P.said d)) ∧ Below w.heap.size w w' := by
  have ht := top_any w base p R P h hne
  have hs : P.said d = if P.top.over ≠ -1 then P.top.over else d := rfl
  unfold stV at ht
  generalize P.top = s at ht hs
  obtain ⟨l, o, b⟩ := s
  simp only at ht hs
  have HS := Lib.hid hs
  have HT := Lib.hid ht
  have hf1 := st_field1 (.int .u8 l) (.int .i8 o) (.bool b)
  clear hs h hne ht
  go_enter Tryz.func146, Tryz.ntmps146
  go_upto_region 1 with (fail)
  go_upto_region 2 with (go_at_call 145; refine HT.out.mono ?_; rintro e w1 ⟨rfl, hw1⟩)
  by_cases ho : o = -1
  · subst ho
    go_wp2_with (fail)
    go_ret
    exact ⟨ret_i (by rw [HS.out]; rfl), hw1⟩
  · have hb : (o != -1) = true := by simpa using ho
    go_wp2_with (fail)
    go_ret
    exact ⟨ret_i (by rw [HS.out, if_pos ho]), hw1⟩
set_option maxHeartbeats 400000 in
theorem pop_any (w : World) (base p R : Nat) (P : LPile) (h : PileAt w base p R P) (h1 : 1 < P.states.length) :
    Calls Tryz.prog 180 #[.pointer (some ⟨p, 0, none⟩)] w fun e w' => e = .returned (.tuple #[]) ∧ PileAt w' base p R P.pop ∧ Keep2 p R w w' := by
  obtain ⟨N, cap, hp, hR, hb1, hb2, hne', hlc, hcm, hcN⟩ := h
  obtain ⟨L, hL⟩ : ∃ L, P.states.length = L + 1 := ⟨P.states.length - 1, by omega⟩
  have hRl := hR.lt
  have hend : ∀ q, PileAt ((w.setCell ⟨p, 0, none⟩ (.slice (some ⟨R, 0, none⟩) L L)).drewN q) base p R P.pop ∧ Keep2 p R w ((w.setCell ⟨p, 0, none⟩ (.slice (some ⟨R, 0, none⟩) L L)).drewN q) := fun q => by
    refine ⟨⟨N, L, ?_, ?_, hb1, hb2, hne', ?_, by unfold maxLen at *; omega, by omega⟩, ((Keep2.refl p R w).set 0 _).drewN q⟩
    · have := pile_set0 (v := .slice (some ⟨R, 0, none⟩) L L) hp
      rw [P.pop_len, hL, Nat.add_sub_cancel]
      exact this
    · have := (row_set_other (i := 0) (v := .slice (some ⟨R, 0, none⟩) L L) hR hne').take (L * 3)
      rw [← flat_take P.states scell 3 (fun _ => rfl)] at this
      unfold LPile.pop
      rw [hL, Nat.add_sub_cancel]
      exact this
    · rw [P.pop_len]; omega
  have HE := Lib.hid hend
  obtain ⟨n, hn⟩ : ∃ n, P.states.length = n := ⟨_, rfl⟩
  rw [hn] at hp hlc
  obtain ⟨c0, _, _, _, fr, hpl⟩ := pile_cells hp
  have f0 := fr 0
  unfold maxLen at hcm
  have gL0 : (0 : Int) ≤ (L : Int) := by omega
  have gL1 : (L : Int) < (n : Int) := by omega
  have gL2 : (L : Int) ≤ (cap : Int) := by omega
  have hLc : (n : Int) ≤ (cap : Int) := by omega
  have hwr : IntKind.i64.wrap ((n : Int) - 1) = (L : Int) := by rw [IntKind.wrap_i64]; omega
  clear hR hp hL h1 hcN hn hend
  go_enter Tryz.func180, Tryz.ntmps180
  go_wp2_with (fail)
  go_region
  all_goals go_end0
  all_goals exact ⟨rfl, HE.out _⟩
end
section
set_option linter.unusedVariables false
set_option linter.unusedSimpArgs false
open Go.RowKit

theorem Tryz.info_state : (Tryz.prog.info? 215).map (fun i => (i.zero, i.size, i.bytes)) = some (some (.agg #[.int .u8 0, .int .i8 0, .bool false]), 3, 3) := by kernel_rfl
theorem bits_even (l : Nat) (h : l ≤ 125) : bits .andNot .u8 ((l : Int) + 2) 1 = (((l + 2) / 2 * 2 : Nat) : Int) := by
  have : ∀ k : Fin 126, bits .andNot .u8 (((k : Nat) : Int) + 2) 1 = ((((k : Nat) + 2) / 2 * 2 : Nat) : Int) := by decide
  exact this ⟨l, by omega⟩
theorem bits_odd (l : Nat) (h : l ≤ 125) : bits .or .u8 ((l : Int) + 1) 1 = (((l + 1) / 2 * 2 + 1 : Nat) : Int) := by
  have : ∀ k : Fin 126, bits .or .u8 (((k : Nat) : Int) + 1) 1 = ((((k : Nat) + 1) / 2 * 2 + 1 : Nat) : Int) := by decide
  exact this ⟨l, by omega⟩
def PilePost (w : World) (base p R : Nat) (P : LPile) (v : Value) (e : Ending) (w' : World) : Prop :=
  e = .returned v ∧ ∃ R', PileAt w' base p R' P ∧ (R' = R ∨ w.heap.size ≤ R') ∧ Keep2 p R w w'
set_option maxRecDepth 100000 in
set_option maxHeartbeats 400000 in
theorem lay_any (w : World) (base p R : Nat) (P : LPile) (odd : Bool) (over : Int) (iso : Bool) (h : PileAt w base p R P) (hne : 0 < P.states.length) (hlv : P.top.level ≤ 125) (hlen : P.states.length ≤ 2097153) :
    Calls Tryz.prog 148 #[.pointer (some ⟨p, 0, none⟩), .bool odd, .int .i8 over, .bool iso] w (PilePost w base p R (P.lay odd over iso) (.bool (P.room odd))) := by
  obtain ⟨i3, hi3, hz3, ha3, hb3⟩ := info_parts (Tryz.info_state)
  have ht := fun W (hb : Below w.heap.size w W) => top_any W base p R P (h.keep hb) hne
  obtain ⟨n, hn⟩ : ∃ n, P.next odd = n := ⟨_, rfl⟩
  have hnx : n = if odd = true then (P.top.level + 1) / 2 * 2 + 1 else (P.top.level + 2) / 2 * 2 := by rw [← hn]; rfl
  unfold stV at ht
  have HP := Lib.hid h
  have HT := Lib.hid ht
  have HNX := Lib.hid hnx
  have HN := Lib.hid hn
  clear ht h hnx hn
  generalize P.top = s at HT HNX hlv
  obtain ⟨l, o, b⟩ := s
  simp only at hlv HNX
  have hf1 := st_field0 (.int .u8 l) (.int .i8 o) (.bool b)
  go_enter Tryz.func148, Tryz.ntmps148
  go_upto_region 2 with (go_at_call 145; refine (HT.out w (Below.refl _ _)).mono ?_; rintro e w1 ⟨rfl, hw1⟩)
  go_upto_if 15 with (fail)
  go_cut [9] (fun t wx => t = .int .u8 n ∧ Below w.heap.size w wx)
  case first =>
    have e1 := bits_even l hlv
    have e2 := bits_odd l hlv
    cases odd with
    | true =>
      go_upto_region 3 with (fail)
      go_wp2_with (go_at_call 145; refine (HT.out w1 hw1).mono ?_; rintro e w2 ⟨rfl, hw2⟩)
      go_meet
      have hnn : (n : Int) = ((l : Int) + 1) / 2 * 2 + 1 := by rw [HNX.out, if_pos trivial]; omega
      exact ⟨by rw [hnn], hw1.trans (hw2.mono hw1.size)⟩
    | false =>
      go_wp2_with (fail)
      go_meet
      have hnn : (n : Int) = ((l : Int) + 2) / 2 * 2 := by rw [HNX.out, if_neg (by simp)]; omega
      exact ⟨congrArg (Value.int .u8) (by rw [e1]; omega), hw1⟩
  case rest =>
    obtain ⟨rfl, hbx⟩ := hcut
    obtain ⟨N, cap, hp, hR, hb1, hb2, hne', hlc, hcm, hcN⟩ := HP.out.keep hbx
    have HK : Hid (PileAt wc base p R P) := HP.out.keep hbx
    obtain ⟨c0, c1, c2, c3, fr, hpl⟩ := pile_cells hp
    have f0 := fr 0
    have hroom : P.room odd = (decide (n ≤ 125) && decide (P.deep = 0) && decide (P.emb = 0)) := by unfold LPile.room; rw [HN.out]
    have hlay : P.lay odd over iso = if P.room odd = true then { P with states := P.states ++ [⟨n, over, iso⟩] } else P := by unfold LPile.lay; rw [HN.out]
    have HROOM := Lib.hid hroom
    have HLAY := Lib.hid hlay
    clear hroom hlay
    by_cases hr : n ≤ 125 ∧ P.deep = 0 ∧ P.emb = 0
    · obtain ⟨hr1, hr2, hr3⟩ := hr
      have hrt : P.room odd = true := by rw [HROOM.out]; simp [hr1, hr2, hr3]
      rw [hr2] at c2
      rw [hr3] at c3
      have hr1' : ¬ (125 : Int) < (n : Int) := by omega
      have HRT := Lib.hid hrt
      have HPC := Lib.hid hp
      have HRR := Lib.hid hR
      clear hrt hr2 hr3 hp hR
      go_upto_region 6 with (fail)
      go_wp2_with (at_builtin; refine wpList_append_head _ rfl _ _ 217 rfl 215 i3 _ 3 3 Tryz.underlying217 hi3 hz3 ha3 hb3 rfl (by decide) R N P.states.length cap (P.states.flatMap scell) rfl (HRR.out.kept (Below.heap_alloc _ _ _ HRR.out.lt)) (flat_len _ scell 3 (fun _ => rfl)) hcN hcm ⟨wc.heap.size, 0, none⟩ 1 1 (scell ⟨n, over, iso⟩) rfl rfl (World.news_of_block (cs := (scell ⟨n, over, iso⟩).toArray) (t := 215) (fr := (0, 0)) (heap_alloc_new _ _)) (by simp [scell, Value.oneCell']) (by omega) (by unfold maxLen; omega) (by omega) ?_; intro w3 R' N' cap' h1 h2 h3 h4 h5 h6; have hp3 := (h6.block p (by rw [World.size_alloc]; omega) (by simp; omega)).trans ((Below.heap_alloc _ _ _ hpl).trans HPC.out); obtain ⟨x0, _, _, _, xf, _⟩ := pile_cells hp3; have xf0 := xf 0; have H3 := Lib.hid hp3; have H1 := Lib.hid h1; have H6 := Lib.hid h6; clear hp3 h1 h6)
      go_ret
      have hR' : base ≤ R' ∧ R' ≠ p := by
        rw [World.size_alloc] at h5
        rcases h5 with e | e
        · rw [e]; exact ⟨hb2, hne'⟩
        · omega
      have hfl : ({ P with states := P.states ++ [⟨n, over, iso⟩] } : LPile).states.flatMap scell = P.states.flatMap scell ++ scell ⟨n, over, iso⟩ := by
        show (P.states ++ [(⟨n, over, iso⟩ : LSt)]).flatMap scell = _
        rw [List.flatMap_append, List.flatMap_singleton]
      refine ⟨by rw [HRT.out]; rfl, R', ?_, ?_, ?_⟩
      · rw [HLAY.out, if_pos HRT.out]
        refine ⟨N', cap', ?_, ?_, hb1, hR'.1, hR'.2, ?_, h3, h4⟩
        · have := pile_set0 (v := .slice (some ⟨R', 0, none⟩) (P.states.length + 1) cap') H3.out
          simpa using this
        · rw [hfl]
          exact row_set_other H1.out hR'.2
        · show (P.states ++ [(⟨n, over, iso⟩ : LSt)]).length ≤ cap'
          rw [List.length_append, List.length_singleton]; exact h2
      · rw [World.size_alloc] at h5
        have := hbx.size
        rcases h5 with e | e
        · exact .inl e
        · right; omega
      · exact (((Keep2.of hbx).alloc _).grown H6.out (fun k hk => .inr (.inl (by cases hk; rfl)))).set 0 _
    · have hrf : P.room odd = false := by
        rw [HROOM.out]
        by_cases h1 : n ≤ 125
        · by_cases h2 : P.deep = 0
          · have h3 : ¬ P.emb = 0 := fun h3 => hr ⟨h1, h2, h3⟩
            simp [h3]
          · simp [h2]
        · simp [h1]
      have hend : ∀ q, PilePost w base p R (P.lay odd over iso) (.bool (P.room odd)) (.returned (.bool false)) (wc.drewN q) := fun q =>
        ⟨by rw [hrf], R, by rw [HLAY.out, if_neg (by rw [hrf]; decide)]; exact HK.out.keep (bl_drewN (Below.refl _ _) q), .inl rfl, Keep2.of (bl_drewN hbx q)⟩
      have HE := Lib.hid hend
      clear hend hrf hp hR
      by_cases h1 : n ≤ 125
      · have h1' : ¬ (125 : Int) < (n : Int) := by omega
        by_cases h2 : P.deep = 0
        · have h3 : 0 < P.emb := by omega
          rw [h2] at c2
          clear hr
          go_wp2_with (fail)
          go_ret
          exact HE.out 0
        · have h2' : 0 < P.deep := by omega
          clear hr
          go_wp2_with (fail)
          go_ret
          exact HE.out 0
      · have h1' : (125 : Int) < (n : Int) := by omega
        clear hr
        go_wp2_with (fail)
        go_ret
        exact HE.out 0
end
section
set_option linter.unusedVariables false
set_option linter.unusedSimpArgs false
open Go.RowKit

set_option maxRecDepth 100000 in
set_option maxHeartbeats 400000 in
theorem embed_any (w : World) (base p R : Nat) (P : LPile) (d : Int) (h : PileAt w base p R P) (hne : 0 < P.states.length) (hlv : P.top.level ≤ 125) (hlen : P.states.length ≤ 2097153) (hemb : P.emb ≤ 2097152)
    (hd : d = 14 ∨ d = 15 ∨ d = 16 ∨ d = 17) :
    Calls Tryz.prog 147 #[.pointer (some ⟨p, 0, none⟩), .int .i8 d] w (PilePost w base p R (P.embed d) (.tuple #[])) := by
  obtain ⟨odd, hodd⟩ : ∃ odd, odd = (decide (d = 15) || decide (d = 17)) := ⟨_, rfl⟩
  obtain ⟨ov, hov⟩ : ∃ ov : Int, ov = if d = 16 then 0 else if d = 17 then 1 else -1 := ⟨_, rfl⟩
  have hE : P.embed d = if P.room odd = true then P.lay odd ov false else if P.deep = 0 then { P with emb := P.emb + 1 } else P := by rw [hodd, hov]; rfl
  have hl := lay_any w base p R P odd ov false h hne hlv hlen
  have hnl : P.room odd ≠ true → P.lay odd ov false = P := fun hr => by unfold LPile.lay; rw [if_neg hr]
  have HE := Lib.hid hE
  have HNL := Lib.hid hnl
  clear hE hnl h hne hlv hlen
  obtain ⟨rm, hrm⟩ : ∃ rm, P.room odd = rm := ⟨_, rfl⟩
  rw [hrm] at HE HNL hl
  have key : ∀ w1, (∃ R', PileAt w1 base p R' (P.lay odd ov false) ∧ (R' = R ∨ w.heap.size ≤ R') ∧ Keep2 p R w w1) → rm = true → PilePost w base p R (P.embed d) (.tuple #[]) (.returned (.tuple #[])) w1 := fun w1 ⟨R', k1, k2, k3⟩ hr =>
    ⟨rfl, R', by rw [HE.out, if_pos hr]; exact k1, k2, k3⟩
  have key0 : ∀ w1, (∃ R', PileAt w1 base p R' (P.lay odd ov false) ∧ (R' = R ∨ w.heap.size ≤ R') ∧ Keep2 p R w w1) → rm = false → ¬ P.deep = 0 → PilePost w base p R (P.embed d) (.tuple #[]) (.returned (.tuple #[])) w1 := fun w1 ⟨R', k1, k2, k3⟩ hr h0 => by
    have e1 := HNL.out (by rw [hr]; decide)
    rw [e1] at k1
    exact ⟨rfl, R', by rw [HE.out, if_neg (by rw [hr]; decide), if_neg h0]; exact k1, k2, k3⟩
  have key1 : ∀ w1, (∃ R', PileAt w1 base p R' (P.lay odd ov false) ∧ (R' = R ∨ w.heap.size ≤ R') ∧ Keep2 p R w w1) → rm = false → P.deep = 0 → PilePost w base p R (P.embed d) (.tuple #[]) (.returned (.tuple #[])) (w1.setCell ⟨p, 3, none⟩ (.int .i64 ((P.emb : Int) + 1))) := fun w1 ⟨R', k1, k2, k3⟩ hr h0 => by
    have e1 := HNL.out (by rw [hr]; decide)
    rw [e1] at k1
    obtain ⟨N, cap, hp, hR, r1, r2, r3, r4⟩ := k1
    exact ⟨rfl, R', by rw [HE.out, if_neg (by rw [hr]; decide), if_pos h0]; exact ⟨N, cap, by simpa using pile_set3 (v := .int .i64 ((P.emb : Int) + 1)) hp, row_set_other hR r3, r1, r2, r3, r4⟩, k2, k3.set 3 _⟩
  have hcells : ∀ w1, (∃ R', PileAt w1 base p R' (P.lay odd ov false) ∧ (R' = R ∨ w.heap.size ≤ R') ∧ Keep2 p R w w1) → rm = false → w1.cell? ⟨p, 2, none⟩ = some (.int .i64 P.deep) ∧ w1.cell? ⟨p, 3, none⟩ = some (.int .i64 P.emb) ∧ w1.frozen? ⟨p, 3, none⟩ = false := fun w1 ⟨R', k1, k2, k3⟩ hr => by
    rw [HNL.out (by rw [hr]; decide)] at k1
    obtain ⟨N, cap, hp, _⟩ := k1
    obtain ⟨_, _, c2, c3, fr, _⟩ := pile_cells hp
    exact ⟨c2, c3, fr 3⟩
  have K := Lib.hid key
  have K0 := Lib.hid key0
  have K1 := Lib.hid key1
  have HC := Lib.hid hcells
  have HL := Lib.hid hl
  clear key key0 key1 hcells hl hrm
  rcases hd with rfl | rfl | rfl | rfl
  all_goals
    simp only [decide_true, Bool.or_true, Bool.true_or, Int.reduceEq, decide_false, Bool.or_false, if_true, if_false] at hodd hov
    subst hodd hov
    go_enter Tryz.func147, Tryz.ntmps147
    go_upto_region 6 with (fail)
    by_cases hr : rm = true
    · subst hr
      go_wp2_with (go_at_call 148; refine HL.out.mono ?_; rintro e w1 ⟨rfl, hw1⟩)
      go_end0
      exact K.out w1 hw1 (by first | rfl | trivial)
    · have hr' : rm = false := by simpa using hr
      subst hr'
      clear hr
      by_cases h0 : P.deep = 0
      · go_wp2_with (go_at_call 148; refine HL.out.mono ?_; rintro e w1 ⟨rfl, hw1⟩; obtain ⟨c2, c3, f3⟩ := HC.out w1 hw1 rfl; rw [h0] at c2; have HW := Lib.hid hw1; clear hw1)
        go_end0
        exact K1.out w1 HW.out (by first | rfl | trivial) h0
      · have h0' : 0 < P.deep := by omega
        have h0b : ((P.deep : Int) == 0) = false := by simpa using h0
        go_wp2_with (go_at_call 148; refine HL.out.mono ?_; rintro e w1 ⟨rfl, hw1⟩; obtain ⟨c2, c3, f3⟩ := HC.out w1 hw1 rfl; have HW := Lib.hid hw1; clear hw1)
        go_end0
        exact K0.out w1 HW.out (by first | rfl | trivial) h0
set_option maxRecDepth 100000 in
set_option maxHeartbeats 400000 in
theorem fin_any (w : World) (base p R : Nat) (P : LPile) (h : PileAt w base p R P) (hne : 0 < P.states.length) (hlen : P.states.length ≤ 2097153) (hemb : P.emb ≤ 2097152) :
    Calls Tryz.prog 150 #[.pointer (some ⟨p, 0, none⟩)] w (PilePost w base p R P.fin (.tuple #[])) := by
  have H := Lib.hid h
  have ht := top_any w base p R P h hne
  have hpop := fun (h1 : 1 < P.states.length) W (hb : Below w.heap.size w W) => pop_any W base p R P (h.keep hb) h1
  obtain ⟨N, cap, hp, hR, r1, r2, r3, r4⟩ := h
  obtain ⟨c0, c1, c2, c3, fr, hpl⟩ := pile_cells hp
  have f3 := fr 3
  unfold stV at ht
  have HT := Lib.hid ht
  have HPO := Lib.hid hpop
  have HP := Lib.hid hp
  have HR := Lib.hid hR
  clear ht hp hR hpop
  have hF : P.fin = if 0 < P.deep then P else if 0 < P.emb then { P with emb := P.emb - 1 } else if 1 < P.states.length ∧ P.top.iso = false then P.pop else P := rfl
  have HF := Lib.hid hF
  clear hF
  have same : ∀ w1, Below w.heap.size w w1 → PileAt w1 base p R P ∧ Keep2 p R w w1 := fun w1 hb => ⟨H.out.keep hb, Keep2.of hb⟩
  have SM := Lib.hid same
  clear same
  go_enter Tryz.func150, Tryz.ntmps150
  by_cases h1 : 0 < P.deep
  · go_wp2_with (fail)
    go_end0
    exact ⟨rfl, R, by rw [HF.out, if_pos h1]; exact (SM.out _ (Below.refl _ _)).1, .inl rfl, (SM.out _ (Below.refl _ _)).2⟩
  · by_cases h2 : 0 < P.emb
    · go_wp2_with (fail)
      go_end0
      refine ⟨rfl, R, ?_, .inl rfl, (Keep2.refl p R w).set 3 _⟩
      rw [HF.out, if_neg h1, if_pos h2]
      refine ⟨N, cap, ?_, row_set_other HR.out r3, r1, r2, r3, r4⟩
      have := pile_set3 (v := .int .i64 ((P.emb - 1 : Nat) : Int)) HP.out
      rw [show (((P.emb - 1 : Nat) : Int)) = (P.emb : Int) - 1 by omega] at this
      simp only
      rw [show (((P.emb - 1 : Nat) : Int)) = (P.emb : Int) - 1 by omega]
      exact this
    · generalize P.top = s at HT HF
      obtain ⟨l, o, b⟩ := s
      simp only at HF
      have hf2 := st_field2 (.int .u8 l) (.int .i8 o) (.bool b)
      by_cases h3 : 1 < P.states.length
      · cases b with
        | true =>
          go_wp2_with (go_at_call 145; refine HT.out.mono ?_; rintro e w1 ⟨rfl, hw1⟩)
          go_end0
          exact ⟨rfl, R, by rw [HF.out, if_neg h1, if_neg h2, if_neg (by simp)]; exact (SM.out _ hw1).1, .inl rfl, (SM.out _ hw1).2⟩
        | false =>
          go_wp2_with (first | (go_at_call 145; refine HT.out.mono ?_; rintro e w1 ⟨rfl, hw1⟩) | (go_at_call 180; refine (HPO.out h3 _ hw1).mono ?_; rintro e w2 ⟨rfl, hw2, hk2⟩))
          go_end0
          exact ⟨rfl, R, by rw [HF.out, if_neg h1, if_neg h2, if_pos ⟨h3, by first | rfl | trivial⟩]; exact hw2, .inl rfl, (Keep2.of hw1).trans hk2 (.inl rfl)⟩
      · go_wp2_with (fail)
        go_end0
        exact ⟨rfl, R, by rw [HF.out, if_neg h1, if_neg h2, if_neg (fun e => h3 e.1)]; exact (SM.out _ (Below.refl _ _)).1, .inl rfl, (SM.out _ (Below.refl _ _)).2⟩
/-- What the loop of 'close' keeps. -/
structure PopRel (w : World) (base p R : Nat) (P0 : LPile) (P : LPile) (wx : World) : Prop where
  at_ : PileAt wx base p R P
  keep : Keep2 p R w wx
  bot : (P.last 0).iso = false
  ne : 0 < P.states.length
  cnt : P.states.countP (·.iso) = P0.states.countP (·.iso)
  pop : LPile.popTo P.states.length P = LPile.popTo P0.states.length P0
  len : P.states.length ≤ P0.states.length
  opn : P.opn = P0.opn
set_option maxRecDepth 100000 in
set_option maxHeartbeats 400000 in
theorem close_any (w : World) (base p R : Nat) (P : LPile) (i : Nat) (h : PileAt w base p R P) (hok : P.Ok i) (hi : i ≤ 2097152) :
    Calls Tryz.prog 149 #[.pointer (some ⟨p, 0, none⟩)] w (PilePost w base p R P.close (.tuple #[])) := by
  have H := Lib.hid h
  have hF : P.close = if 0 < P.deep then { P with deep := P.deep - 1 } else if 0 < P.opn then { ((LPile.popTo P.states.length { P with emb := 0 }).pop) with opn := P.opn - 1 } else P := rfl
  have HF := Lib.hid hF
  have HOK := Lib.hid hok
  have hdp := hok.deep
  have hop := hok.opn
  obtain ⟨N, cap, hp, hR, r1, r2, r3, r4⟩ := h
  obtain ⟨c0, c1, c2, c3, fr, hpl⟩ := pile_cells hp
  have f1 := fr 1
  have f2 := fr 2
  have f3 := fr 3
  have HP := Lib.hid hp
  have HR := Lib.hid hR
  clear hp hR hF hok
  go_enter Tryz.func149, Tryz.ntmps149
  by_cases h1 : 0 < P.deep
  · go_wp2_with (fail)
    go_end0
    refine ⟨rfl, R, ?_, .inl rfl, (Keep2.refl p R w).set 2 _⟩
    rw [HF.out, if_pos h1]
    refine ⟨N, cap, ?_, row_set_other HR.out r3, r1, r2, r3, r4⟩
    have := pile_set2 (v := .int .i64 ((P.deep : Int) - 1)) HP.out
    simp only
    rw [show (((P.deep - 1 : Nat) : Int)) = (P.deep : Int) - 1 by omega]
    exact this
  · by_cases h2 : 0 < P.opn
    · obtain ⟨P1, hP1⟩ : ∃ P1 : LPile, P1 = { P with emb := 0 } := ⟨_, rfl⟩
      have s1 : P1.states = P.states := by rw [hP1]
      have a1 : PileAt (w.setCell ⟨p, 3, none⟩ (.int .i64 0)) base p R P1 := by
        rw [hP1]
        exact ⟨N, cap, pile_set3 HP.out, row_set_other HR.out r3, r1, r2, r3, r4⟩
      have rel1 : PopRel w base p R P1 P1 (w.setCell ⟨p, 3, none⟩ (.int .i64 0)) :=
        ⟨a1, (Keep2.refl p R w).set 3 _, by unfold LPile.last; rw [s1]; exact HOK.out.bot, by rw [s1]; exact HOK.out.ne, rfl, rfl, Nat.le_refl _, rfl⟩
      have hc1 : 0 < P1.states.countP (·.iso) := by rw [s1, HOK.out.cnt]; exact h2
      have hPE : P.close = { ((LPile.popTo P1.states.length P1).pop) with opn := P.opn - 1 } := by rw [HF.out, if_neg h1, if_pos h2, hP1]
      have o1 : P1.opn = P.opn := by rw [hP1]
      have HR1 := Lib.hid rel1
      have HPE := Lib.hid hPE
      have HO1 := Lib.hid o1
      clear rel1 hPE a1 s1 o1 hP1
      go_upto_block 1 with (fail)
      go_wp2_with (fail)
      go_loopg [24] P1.states.length (fun gg _ wx => ∃ P', PopRel w base p R P1 P' wx ∧ P'.states.length ≤ gg)
      case atStart => exact ⟨P1, HR1.out, Nat.le_refl _⟩
      case round =>
        obtain ⟨P', rel, hgg⟩ := hrel
        have htw := LPile.two rel.ne rel.bot (by rw [rel.cnt]; exact hc1)
        have ht := top_any wr base p R P' rel.at_ rel.ne
        have hpop := fun W (hb : Below wr.heap.size wr W) => pop_any W base p R P' (rel.at_.keep hb) htw
        have hpc := P'.pop_cnt rel.ne
        unfold stV at ht
        have HREL := Lib.hid rel
        have HPO := Lib.hid hpop
        obtain ⟨s, hs⟩ : ∃ s, P'.top = s := ⟨_, rfl⟩
        rw [hs] at ht hpc
        have HS := Lib.hid hs
        obtain ⟨l, o, b⟩ := s
        have hf2 := st_field2 (.int .u8 l) (.int .i8 o) (.bool b)
        clear rel hs hpop
        cases b with
        | true =>
          have eo : P'.pop.opn = P.opn := HREL.out.opn.trans HO1.out
          go_wp2_with (first | (go_at_call 145; refine ht.mono ?_; rintro e w1 ⟨rfl, hw1⟩) | (go_at_call 180; refine (HPO.out _ hw1).mono ?_; rintro e w2 ⟨rfl, hw2, hk2⟩; have HW2 := Lib.hid hw2; obtain ⟨N2, cap2, hp2, hR2, q1, q2, q3, q4⟩ := hw2; obtain ⟨_, d1, _, _, dfr, _⟩ := pile_cells hp2; have g1 := dfr 1; rw [eo] at d1; have HP2 := Lib.hid hp2; have HR2 := Lib.hid hR2; clear hp2 hR2))
          go_end0
          have hpp : LPile.popTo P1.states.length P1 = P' := by
            rw [← HREL.out.pop]
            obtain ⟨m, hm⟩ : ∃ m, P'.states.length = m + 1 := ⟨P'.states.length - 1, by have := HREL.out.ne; omega⟩
            rw [hm, LPile.popTo, if_pos (by rw [HS.out])]
          refine ⟨rfl, R, ?_, .inl rfl, ((HREL.out.keep.trans (Keep2.of hw1) (.inl rfl)).trans hk2 (.inl rfl)).set 1 _⟩
          rw [HPE.out, hpp]
          refine ⟨N2, cap2, ?_, row_set_other HR2.out q3, q1, q2, q3, q4⟩
          have := pile_set1 (v := .int .i64 ((P.opn : Int) - 1)) HP2.out
          simp only
          rw [show (((P.opn - 1 : Nat) : Int)) = (P.opn : Int) - 1 by omega]
          exact this
        | false =>
          go_wp2_with (first | (go_at_call 145; refine ht.mono ?_; rintro e w1 ⟨rfl, hw1⟩) | (go_at_call 180; refine (HPO.out _ hw1).mono ?_; rintro e w2 ⟨rfl, hw2, hk2⟩))
          go_roundg (P'.states.length - 1)
          case measure => have := HREL.out.ne; omega
          case rel =>
            have r := HREL.out
            have hl := P'.pop_len
            refine ⟨P'.pop, ⟨hw2, (r.keep.trans (Keep2.of hw1) (.inl rfl)).trans hk2 (.inl rfl), by rw [P'.pop_last 0 (by omega)]; exact r.bot, by omega, ?_, ?_, by have := r.len; omega, r.opn⟩, by omega⟩
            · rw [← r.cnt]
              simpa using hpc.symm
            · rw [← r.pop]
              obtain ⟨m, hm⟩ : ∃ m, P'.states.length = m + 1 := ⟨P'.states.length - 1, by have := r.ne; omega⟩
              rw [hl, hm, Nat.add_sub_cancel]
              conv => rhs; rw [LPile.popTo, if_neg (by rw [HS.out]; simp)]
    · go_wp2_with (fail)
      go_end0
      exact ⟨rfl, R, by rw [HF.out, if_neg h1, if_neg h2]; exact H.out, .inl rfl, Keep2.refl p R w⟩
end
section
set_option linter.unusedVariables false
set_option linter.unusedSimpArgs false
open Go.RowKit

theorem Tryz.info_u8 : (Tryz.prog.info? 5).map (fun i => (i.zero, i.size, i.bytes)) = some (some (.int .u8 0), 1, 1) := by kernel_rfl
def ints (l : List Nat) : List Int := l.map fun (x : Nat) => (x : Int)
theorem stV_f0 (s : LSt) (w : World) : Sem.run Tryz.prog (Instr.field 215 (stV s) 0) w = .ok (.int .u8 s.level) w := by kernel_rfl
theorem lay_opn (P : LPile) (odd : Bool) (o : Int) (b : Bool) : (P.lay odd o b).opn = P.opn ∧ (P.lay odd o b).deep = P.deep := by unfold LPile.lay; split <;> exact ⟨rfl, rfl⟩
theorem iso_cells {w3 : World} {B p R' : Nat} {P : LPile} {odd : Bool} (h : PileAt w3 B p R' (P.lay odd (-1) true)) :
    w3.cell? ⟨p, 1, none⟩ = some (.int .i64 P.opn) ∧ w3.cell? ⟨p, 2, none⟩ = some (.int .i64 P.deep) ∧ w3.frozen? ⟨p, 1, none⟩ = false ∧ w3.frozen? ⟨p, 2, none⟩ = false := by
  obtain ⟨N, cap, hp, _⟩ := h
  rw [(lay_opn P odd (-1) true).1, (lay_opn P odd (-1) true).2] at hp
  obtain ⟨_, c1, c2, _, fr, _⟩ := pile_cells hp
  exact ⟨c1, c2, fr 1, fr 2⟩
theorem iso_true {w3 : World} {B p R' : Nat} {P : LPile} {odd : Bool} (h : PileAt w3 B p R' (P.lay odd (-1) true)) :
    PileAt (w3.setCell ⟨p, 1, none⟩ (.int .i64 ((P.opn : Int) + 1))) B p R' { P.lay odd (-1) true with opn := P.opn + 1 } := by
  obtain ⟨N, cap, hp, hR, r1, r2, r3, r4⟩ := h
  exact ⟨N, cap, by simpa using pile_set1 (v := .int .i64 ((P.opn : Int) + 1)) hp, row_set_other hR r3, r1, r2, r3, r4⟩
theorem iso_false {w3 : World} {B p R' : Nat} {P : LPile} {odd : Bool} (h : PileAt w3 B p R' (P.lay odd (-1) true)) (hr : P.room odd = false) :
    PileAt (w3.setCell ⟨p, 2, none⟩ (.int .i64 ((P.deep : Int) + 1))) B p R' { P with deep := P.deep + 1 } := by
  have e : P.lay odd (-1) true = P := by unfold LPile.lay; rw [hr]; rfl
  rw [e] at h
  obtain ⟨N, cap, hp, hR, r1, r2, r3, r4⟩ := h
  exact ⟨N, cap, by simpa using pile_set2 (v := .int .i64 ((P.deep : Int) + 1)) hp, row_set_other hR r3, r1, r2, r3, r4⟩
def LevPost (ds : List Int) (base n : Nat) (w : World) (e : Ending) (w' : World) : Prop :=
  ∃ la lc ka kc, e = .returned (.tuple #[.slice la n lc, .slice ka n kc]) ∧ OutAt .u8 5 w' w.heap.size la lc (ints (levI ds base).1) ∧ OutAt .i8 22 w' w.heap.size ka kc (levI ds base).2 ∧ Below w.heap.size w w'
/-- What one place's turn has done to the pile. -/
def LevMid (B p R : Nat) (wr : World) (S : LPile × Nat × Int) (v7 v10 v11 : Value) (wx : World) : Prop :=
  ∃ p' R', v7 = .pointer (some ⟨p', 0, none⟩) ∧ v10 = .int .u8 (S.2.1 : Nat) ∧ v11 = .int .i8 S.2.2 ∧ PileAt wx B p' R' S.1 ∧ (p' = p ∨ wr.heap.size ≤ p') ∧ (R' = R ∨ wr.heap.size ≤ R') ∧ Keep2 p R wr wx
/-- The round's state. -/
structure LevRel (w : World) (ds : List Int) (base n : Nat) (i m : Nat) (P : LPile) (p R : Nat) (ls : List Nat) (ks : List Int) (lv kv : Value) (wx : World) : Prop where
  im : i + m = n
  lown : wx.ownsRow (w.heap.size + 1) 5 1 lv ls.length ((ints ls).map (Value.int .u8))
  kown : wx.ownsRow (w.heap.size + 1) 22 1 kv ks.length (ks.map (Value.int .i8))
  pile : PileAt wx (w.heap.size + 1) p R P
  ok : P.Ok i
  la : ∀ g, lv.ownBlock = some g → g ≠ p ∧ g ≠ R ∧ kv.ownBlock ≠ some g
  ka : ∀ g, kv.ownBlock = some g → g ≠ p ∧ g ≠ R
  beg : wx.heap[w.heap.size]? = some (.cells #[.int .u8 base, .int .i8 (-1), .bool false] 215 (0, 0))
  bel : Below w.heap.size w wx
  sz : w.heap.size + 1 ≤ wx.heap.size
  eq : levF base ds m i P ls ks = levI ds base
  ll : ls.length = i
  kl : ks.length = i
theorem newPile (W : World) (B base : Nat) (hB : B ≤ W.heap.size) :
    PileAt ((W.alloc (.cells #[.int .u8 base, .int .i8 (-1), .bool false] 215)).alloc (.cells #[.slice (some ⟨W.heap.size, 0, none⟩) 1 1, .int .i64 0, .int .i64 0, .int .i64 0] 219)) B (W.heap.size + 1) W.heap.size ⟨[⟨base, -1, false⟩], 0, 0, 0⟩ := by
  refine ⟨3, 1, ?_, ⟨#[.int .u8 base, .int .i8 (-1), .bool false], ?_, rfl, rfl, by simp [scell]⟩, by omega, hB, by omega, by simp, by unfold maxLen; omega, by omega⟩
  · have := heap_alloc_new (W.alloc (.cells #[.int .u8 base, .int .i8 (-1), .bool false] 215)) (.cells #[.slice (some ⟨W.heap.size, 0, none⟩) 1 1, .int .i64 0, .int .i64 0, .int .i64 0] 219)
    rw [World.size_alloc] at this
    exact this
  · exact (Below.heap_alloc _ _ _ (by simp)).trans (heap_alloc_new W _)
theorem LPile.step_at (P : LPile) (base : Nat) (ds : List Int) (i : Nat) (d : Int) (h : lkn (ith ds i) = d) :
    P.step base ds i = if 14 ≤ d ∧ d ≤ 17 then (P.embed d, P.top.level, 9)
      else if 19 ≤ d ∧ d ≤ 21 then
        (if P.room (if d = 21 then decide (firstI (ds.drop (i + 1)) = 1) || decide (firstI (ds.drop (i + 1)) = 2) else decide (d = 20)) = true then { P.lay (if d = 21 then decide (firstI (ds.drop (i + 1)) = 1) || decide (firstI (ds.drop (i + 1)) = 2) else decide (d = 20)) (-1) true with opn := P.opn + 1 } else { P with deep := P.deep + 1 }, P.top.level, P.said d)
      else if d = 22 then (P.close, P.close.top.level, P.close.said d)
      else if d = 18 then (P.fin, P.fin.top.level, 9)
      else if d = 9 then (P, P.top.level, 9)
      else if d = 10 then (⟨[⟨base, -1, false⟩], 0, 0, 0⟩, base, 10)
      else (P, P.top.level, P.said d) := by subst h; rfl
theorem PileAt.far {w w' : World} {B p R : Nat} {P : LPile} (h : PileAt w B p R P) {row : Option Nat} (hg : w.grownBy w' row) (hp : row ≠ some p) (hR : row ≠ some R) : PileAt w' B p R P := by
  obtain ⟨N, cap, h1, h2, r⟩ := h
  exact ⟨N, cap, (hg.block p (Array.getElem?_eq_some_iff.1 h1).1 (fun e => hp e.symm)).trans h1, h2.kept (hg.block R h2.lt (fun e => hR e.symm)), r⟩
theorem ints_snoc (l : List Nat) (x : Nat) : (ints (l ++ [x])).map (Value.int .u8) = (ints l).map (Value.int .u8) ++ [.int .u8 (x : Int)] := by unfold ints; simp
theorem lev_next {w wr wc w4 w5 : World} {ds : List Int} {base n i m p R p' R' lc kc : Nat} {P : LPile} {ls : List Nat} {ks : List Int} {la ka : Option Addr} {S : LPile × Nat × Int} {o1 o2 : Obj} {v4 v5 : Value}
    (rel : LevRel w ds base n i (m + 1) P p R ls ks (.slice la ls.length lc) (.slice ka ks.length kc) wr) (hb : base ≤ 125) (hS : P.step base ds i = S)
    (b1 : PileAt wc (w.heap.size + 1) p' R' S.1) (b2 : p' = p ∨ wr.heap.size ≤ p') (b3 : R' = R ∨ wr.heap.size ≤ R') (b4 : Keep2 p R wr wc)
    (g1 : (wc.alloc o1).grownBy w4 (Value.slice la ls.length lc).ownBlock) (o4 : w4.ownsRow (w.heap.size + 1) 5 1 v4 (ls.length + 1) ((ints ls).map (Value.int .u8) ++ [.int .u8 (S.2.1 : Nat)]))
    (l4 : v4.ownBlock = (Value.slice la ls.length lc).ownBlock ∨ v4.ownBlock = some (wc.alloc o1).heap.size)
    (g2 : (w4.alloc o2).grownBy w5 (Value.slice ka ks.length kc).ownBlock) (o5 : w5.ownsRow (w.heap.size + 1) 22 1 v5 (ks.length + 1) (ks.map (Value.int .i8) ++ [.int .i8 S.2.2]))
    (l5 : v5.ownBlock = (Value.slice ka ks.length kc).ownBlock ∨ v5.ownBlock = some (w4.alloc o2).heap.size) :
    LevRel w ds base n (i + 1) m S.1 p' R' (ls ++ [S.2.1]) (ks ++ [S.2.2]) v4 v5 w5 := by
  have z0 := b4.size
  have z1 := g1.size
  have z2 := g2.size
  rw [World.size_alloc] at z1 z2 l4 l5
  have q := b1.lt
  have q0 := rel.pile.lt
  generalize hlv : Value.slice la ls.length lc = lv at *
  generalize hkv : Value.slice ka ks.length kc = kv at *
  have hl := fun g (hg : lv.ownBlock = some g) => rel.lown.lt g hg
  have hk := fun g (hg : kv.ownBlock = some g) => rel.kown.lt g hg
  have lp : ∀ g, lv.ownBlock = some g → g ≠ p' ∧ g ≠ R' := fun g hg => by
    have a := rel.la g hg
    have c := hl g hg
    constructor
    · rcases b2 with e | e <;> omega
    · rcases b3 with e | e <;> omega
  have kp : ∀ g, kv.ownBlock = some g → g ≠ p' ∧ g ≠ R' := fun g hg => by
    have a := rel.ka g hg
    have c := hk g hg
    constructor
    · rcases b2 with e | e <;> omega
    · rcases b3 with e | e <;> omega
  have hsz := rel.sz
  refine ⟨by have := rel.im; omega, ?_, ?_, ?_, by rw [← hS]; exact rel.ok.step base hb ds i, ?_, ?_, ?_, ?_, by omega, by rw [← rel.eq, levF, hS], by rw [List.length_append, rel.ll]; rfl, by rw [List.length_append, rel.kl]; rfl⟩
  · rw [List.length_append, List.length_singleton, ints_snoc]
    refine ownsRow_ne (o4.alloc o2) g2 fun g hg => ?_
    intro e
    have c := hk g e
    rcases l4 with e' | e'
    · rw [e'] at hg
      exact (rel.la g hg).2.2 e
    · rw [e'] at hg
      cases hg
      omega
  · rw [List.length_append, List.length_singleton, List.map_append]
    exact o5
  · have a1 := (b1.keep ((Below.refl _ wc).alloc (Nat.le_refl _) o1)).far g1 (fun e => (lp p' e).1 rfl) (fun e => (lp R' e).2 rfl)
    exact (a1.keep ((Below.refl _ w4).alloc (Nat.le_refl _) o2)).far g2 (fun e => (kp p' e).1 rfl) (fun e => (kp R' e).2 rfl)
  · intro g hg
    rcases l4 with e | e
    · rw [e] at hg
      refine ⟨(lp g hg).1, (lp g hg).2, ?_⟩
      have c := hl g hg
      rcases l5 with e' | e'
      · rw [e']; exact (rel.la g hg).2.2
      · rw [e']; intro e''; have := Option.some.inj e''; omega
    · rw [e] at hg
      cases hg
      refine ⟨by omega, by omega, ?_⟩
      rcases l5 with e' | e'
      · intro e''
        rw [e'] at e''
        have := hk _ e''
        omega
      · rw [e']; intro e''; have := Option.some.inj e''; omega
  · intro g hg
    rcases l5 with e | e
    · rw [e] at hg; exact kp g hg
    · rw [e] at hg; cases hg; exact ⟨by omega, by omega⟩
  · have h1 := (b4.block w.heap.size (by omega) (by omega) (by omega)).trans rel.beg
    have h2 := (Below.heap_alloc wc o1 w.heap.size (by omega)).trans h1
    have h3 := (g1.block w.heap.size (by rw [World.size_alloc]; omega) (fun e => by have := hl _ e.symm; omega)).trans h2
    have h4 := (Below.heap_alloc w4 o2 w.heap.size (by omega)).trans h3
    exact (g2.block w.heap.size (by rw [World.size_alloc]; omega) (fun e => by have := hk _ e.symm; omega)).trans h4
  · have h1 := rel.bel.trans (b4.below (B := w.heap.size) (by omega) (by omega) (by omega))
    have h2 := (h1.alloc (by omega) o1).grown g1 (by rw [World.size_alloc]; omega) (fun k hk' => by have := hl _ hk'; omega)
    exact (h2.alloc (by omega) o2).grown g2 (by rw [World.size_alloc]; omega) (fun k hk' => by have := hk _ hk'; omega)
set_option maxRecDepth 100000 in
set_option maxHeartbeats 1000000 in
theorem LLevels_any (a : Option Addr) (ds : List Int) (n cap base : Nat) (w : World) (hl : ds.length = n) (hd : Rd .i8 w a ds) (hn : n ≤ 2097152) (hnc : n ≤ cap) (hcm : cap ≤ 9223372036854775807) (hb : base ≤ 125) :
    Calls Tryz.prog 127 #[.slice a n cap, .int .u8 base] w (LevPost ds base n w) := by
  obtain ⟨i5, hi5, hz5, ha5, hb5⟩ := info_parts (Tryz.info_u8)
  obtain ⟨i40, hi40, hz40, ha40, hb40⟩ := info_parts (Tryz.info_i8)
  have HL := Lib.hid hl
  have HI : Hid (levF base ds n 0 ⟨[⟨base, -1, false⟩], 0, 0, 0⟩ [] [] = levI ds base) := by
    unfold levI; rw [Nat.min_eq_left hb, hl]; exact rfl
  have hmin : min (base : Int) 125 = base := by omega
  clear hl
  go_enter Tryz.func127, Tryz.ntmps127
  go_wp2_with (fail)
  have hlen1 : ∀ o1, (w.alloc o1).heap.size = w.heap.size + 1 := fun o1 => World.size_alloc w o1
  have hP0 := newPile (w.alloc (.cells #[.int .u8 base, .int .i8 (-1), .bool false] 215)) (w.heap.size + 1) base (by rw [hlen1]; omega)
  rw [hlen1] at hP0
  have hbel0 := (((Below.refl w.heap.size w).alloc (Nat.le_refl _) (.cells #[.int .u8 base, .int .i8 (-1), .bool false] 215)).alloc (by simp) (.cells #[.int .u8 base, .int .i8 (-1), .bool false] 215)).alloc (by simp; omega) (.cells #[.slice (some ⟨w.heap.size + 1, 0, none⟩) 1 1, .int .i64 0, .int .i64 0, .int .i64 0] 219)
  go_loopw [4, 5, 7, 23] (fun u4 u5 u7 u23 wx => ∃ i m P p R ls ks, u7 = .pointer (some ⟨p, 0, none⟩) ∧ u23 = .int .i64 (i : Nat) ∧ LevRel w ds base n i m P p R ls ks u4 u5 wx) (fun _ _ _ c _ => n - (intOf c).toNat)
  case atStart =>
    refine ⟨0, n, ⟨[⟨base, -1, false⟩], 0, 0, 0⟩, w.heap.size + 1 + 1, w.heap.size + 1, [], [], rfl, rfl, ⟨by omega, World.ownsRow_nil _ _ _ _, World.ownsRow_nil _ _ _ _, hP0, LPile.begin_ok base 0 hb, fun g hg => by simp [Value.ownBlock] at hg, fun g hg => by simp [Value.ownBlock] at hg, ?_, hbel0, by simp, HI.out, rfl, rfl⟩⟩
    exact (Below.heap_alloc _ _ _ (by simp; omega)).trans ((Below.heap_alloc _ _ _ (by simp)).trans (heap_alloc_new w _))
  case round =>
    clear hP0 hbel0
    obtain ⟨i, m, P, p, R, ls, ks, rfl, rfl, rel⟩ := hrel
    have him := rel.im
    by_cases hi : i < n
    · obtain ⟨la, lc, hlv, hlc1, hlc2⟩ := own_slice rel.lown
      obtain ⟨ka, kc, hkv, hkc1, hkc2⟩ := own_slice rel.kown
      subst hlv hkv
      obtain ⟨G, o, rfl, hGl, hGc⟩ := hd.at rel.bel i (by have := HL.out; omega)
      obtain ⟨y, hy⟩ : ∃ y, ith ds i = y := ⟨_, rfl⟩
      rw [hy] at hGc
      obtain ⟨d, hd'⟩ : ∃ d, lkn y = d := ⟨_, rfl⟩
      have HST := Lib.hid (P.step_at base ds i d (by rw [hy]; exact hd'))
      have HD : Hid (∀ W, Calls Tryz.prog 124 #[.int .i8 y] W fun e w' => e = .returned (.int .i8 d) ∧ W = w') := Lib.hid fun W => by rw [← hd']; exact lknown_any y W
      have hdb := lkn_bd y
      rw [hd'] at hdb
      have HTOP := Lib.hid (fun W (hb : Below wr.heap.size wr W) => top_any W _ p R P (rel.pile.keep hb) rel.ok.ne)
      have HSAID := Lib.hid (fun W (hb : Below wr.heap.size wr W) => said_any W _ p R P d (rel.pile.keep hb) rel.ok.ne)
      have hlv := rel.ok.top.1
      have hple := rel.ok.len
      have hpem := rel.ok.emb
      have REL := Lib.hid rel
      clear hd' hy rel
      obtain ⟨s, hs⟩ : ∃ s, P.top = s := ⟨_, rfl⟩
      obtain ⟨sd, hsd⟩ : ∃ sd, P.said d = sd := ⟨_, rfl⟩
      have HTV : Hid (∀ W, Below wr.heap.size wr W → Calls Tryz.prog 145 #[.pointer (some ⟨p, 0, none⟩)] W fun e w' => e = .returned (.agg #[.int .u8 s.level, .int .i8 s.over, .bool s.iso]) ∧ Below W.heap.size W w') := Lib.hid fun W hb => by rw [← hs]; exact HTOP.out W hb
      have HSV : Hid (∀ W, Below wr.heap.size wr W → Calls Tryz.prog 146 #[.pointer (some ⟨p, 0, none⟩), .int .i8 d] W fun e w' => e = .returned (.int .i8 sd) ∧ Below W.heap.size W w') := Lib.hid fun W hb => by rw [← hsd]; exact HSAID.out W hb
      rw [hs, hsd] at HST
      have hf0 := st_field0 (.int .u8 s.level) (.int .i8 s.over) (.bool s.iso)
      clear HTOP HSAID hs hsd
      go_upto_block 2 with (first | (go_at_call 124; refine (HD.out _).mono ?_; rintro e w' ⟨rfl, hw'⟩; subst hw') | (go_at_call 145; refine (HTV.out _ (Below.refl _ _)).mono ?_; rintro e w1 ⟨rfl, hw1⟩) | (go_at_call 146; refine (HSV.out _ hw1).mono ?_; rintro e w2 ⟨rfl, hw2⟩))
      have hb2 : Below wr.heap.size wr w2 := hw1.trans (hw2.mono hw1.size)
      have HP2 := Lib.hid (REL.out.pile.keep hb2)
      have hbeg : w2.heap[w.heap.size]? = some (.cells #[.int .u8 base, .int .i8 (-1), .bool false] 215 (0, 0)) := (hb2.block _ (by have := REL.out.sz; omega)).trans REL.out.beg
      have e0 : w2.cell? ⟨w.heap.size, 0, none⟩ = some (.int .u8 base) := by simp [World.cell?, hbeg]
      have e1 : w2.cell? ⟨w.heap.size, 1, none⟩ = some (.int .i8 (-1)) := by simp [World.cell?, hbeg]
      have e2 : w2.cell? ⟨w.heap.size, 2, none⟩ = some (.bool false) := by simp [World.cell?, hbeg]
      have hs2 : wr.heap.size ≤ w2.heap.size := hb2.size
      have HB2 := Lib.hid hb2
      have HDR := Lib.hid (hd.below (w' := w2) ((REL.out.bel.trans (hb2.mono REL.out.bel.size))))
      clear hw1 hw2 hb2 hbeg hGc
      go_cut [7, 10, 11] (fun v7 v10 v11 wx => LevMid (w.heap.size + 1) p R wr (P.step base ds i) v7 v10 v11 wx)
      case first =>
        have hsame : ∀ k, LevMid (w.heap.size + 1) p R wr (P, s.level, k) (.pointer (some ⟨p, 0, none⟩)) (.int .u8 s.level) (.int .i8 k) w2 := fun k => ⟨p, R, rfl, rfl, rfl, HP2.out, .inl rfl, .inl rfl, Keep2.of HB2.out⟩
        have HSAME := Lib.hid hsame
        clear hsame
        by_cases ca : 14 ≤ d ∧ d ≤ 17
        · have hst := HST.out.trans (if_pos ca)
          have hem := embed_any w2 _ p R P d HP2.out REL.out.ok.ne hlv (by omega) (by omega) (by omega)
          have HS := Lib.hid hst
          have HEM := Lib.hid hem
          have ca' : d = 14 ∨ d = 15 ∨ d = 16 ∨ d = 17 := by omega
          clear hst hem ca
          rcases ca' with rfl | rfl | rfl | rfl
          all_goals
            go_wp2_with (go_at_call 147; refine HEM.out.mono ?_; rintro e w3 ⟨rfl, R', a1, a2, a3⟩)
            go_meet
            rw [HS.out]
            exact ⟨p, R', rfl, rfl, rfl, a1, .inl rfl, a2.imp id (fun h => Nat.le_trans hs2 h), (Keep2.of HB2.out).trans a3 (.inl rfl)⟩
        · have hst := HST.out.trans (if_neg ca)
          by_cases cb : 19 ≤ d ∧ d ≤ 21
          · have hst := hst.trans (if_pos cb)
            obtain ⟨F, hF⟩ : ∃ F, firstI (ds.drop (i + 1)) = F := ⟨_, rfl⟩
            rw [hF] at hst
            obtain ⟨odd, hodd⟩ : ∃ odd, (if d = 21 then decide (F = 1) || decide (F = 2) else decide (d = 20)) = odd := ⟨_, rfl⟩
            rw [hodd] at hst
            have hl := lay_any w2 _ p R P odd (-1) true HP2.out REL.out.ok.ne hlv (by omega)
            obtain ⟨rm, hrm⟩ : ∃ rm, P.room odd = rm := ⟨_, rfl⟩
            rw [hrm] at hst hl
            have HS := Lib.hid hst
            have hdo := REL.out.ok.deep
            have hoo := REL.out.ok.opn
            have kt : rm = true → ∀ w3 R', PileAt w3 (w.heap.size + 1) p R' (P.lay odd (-1) true) → (R' = R ∨ w2.heap.size ≤ R') → Keep2 p R w2 w3 →
                LevMid (w.heap.size + 1) p R wr (P.step base ds i) (.pointer (some ⟨p, 0, none⟩)) (.int .u8 s.level) (.int .i8 sd) (w3.setCell ⟨p, 1, none⟩ (.int .i64 ((P.opn : Int) + 1))) := fun hr w3 R' a1 a2 a3 => by
              rw [HS.out, if_pos hr]
              exact ⟨p, R', rfl, rfl, rfl, iso_true a1, .inl rfl, a2.imp id (fun h => Nat.le_trans hs2 h), ((Keep2.of HB2.out).trans a3 (.inl rfl)).set 1 _⟩
            have kf : rm = false → ∀ w3 R', PileAt w3 (w.heap.size + 1) p R' (P.lay odd (-1) true) → (R' = R ∨ w2.heap.size ≤ R') → Keep2 p R w2 w3 →
                LevMid (w.heap.size + 1) p R wr (P.step base ds i) (.pointer (some ⟨p, 0, none⟩)) (.int .u8 s.level) (.int .i8 sd) (w3.setCell ⟨p, 2, none⟩ (.int .i64 ((P.deep : Int) + 1))) := fun hr w3 R' a1 a2 a3 => by
              rw [HS.out, if_neg (by rw [hr]; decide)]
              exact ⟨p, R', rfl, rfl, rfl, iso_false a1 (hrm.trans hr), .inl rfl, a2.imp id (fun h => Nat.le_trans hs2 h), ((Keep2.of HB2.out).trans a3 (.inl rfl)).set 2 _⟩
            have KT := Lib.hid kt
            have KF := Lib.hid kf
            have HLAY := Lib.hid hl
            have HFF := Lib.hid hF
            have cb' : d = 19 ∨ d = 20 ∨ d = 21 := by omega
            clear hst kt kf hl hF hrm cb ca
            have g1 : (i : Int) + 1 ≤ (n : Int) := by omega
            have g2 : (n : Int) ≤ (cap : Int) := by omega
            rcases cb' with rfl | rfl | rfl
            · rw [if_neg (by decide)] at hodd
              go_upto_if 61 with (fail)
              go_cut [12] (fun t wx => t = .bool odd ∧ wx = w2)
              case first =>
                go_wp2_with (fail)
                go_meet
                exact ⟨by rw [← hodd]; rfl, rfl⟩
              case rest =>
                obtain ⟨rfl, hwx⟩ := hcut
                have hwx' := hwx.symm
                clear hwx
                subst hwx'
                cases rm with
                | true =>
                  go_wp2_with (go_at_call 148; refine HLAY.out.mono ?_; rintro e w3 ⟨rfl, R', a1, a2, a3⟩; obtain ⟨c1, c2, f1, f2⟩ := iso_cells a1)
                  go_meet
                  exact KT.out (by first | rfl | trivial) w3 R' a1 a2 a3
                | false =>
                  go_wp2_with (go_at_call 148; refine HLAY.out.mono ?_; rintro e w3 ⟨rfl, R', a1, a2, a3⟩; obtain ⟨c1, c2, f1, f2⟩ := iso_cells a1)
                  go_meet
                  exact KF.out (by first | rfl | trivial) w3 R' a1 a2 a3
            · rw [if_neg (by decide)] at hodd
              go_upto_if 61 with (fail)
              go_cut [12] (fun t wx => t = .bool odd ∧ wx = w2)
              case first =>
                go_wp2_with (fail)
                go_meet
                exact ⟨by rw [← hodd]; rfl, rfl⟩
              case rest =>
                obtain ⟨rfl, hwx⟩ := hcut
                have hwx' := hwx.symm
                clear hwx
                subst hwx'
                cases rm with
                | true =>
                  go_wp2_with (go_at_call 148; refine HLAY.out.mono ?_; rintro e w3 ⟨rfl, R', a1, a2, a3⟩; obtain ⟨c1, c2, f1, f2⟩ := iso_cells a1)
                  go_meet
                  exact KT.out (by first | rfl | trivial) w3 R' a1 a2 a3
                | false =>
                  go_wp2_with (go_at_call 148; refine HLAY.out.mono ?_; rintro e w3 ⟨rfl, R', a1, a2, a3⟩; obtain ⟨c1, c2, f1, f2⟩ := iso_cells a1)
                  go_meet
                  exact KF.out (by first | rfl | trivial) w3 R' a1 a2 a3
            · rw [if_pos rfl] at hodd
              go_upto_if 61 with (fail)
              go_cut [12] (fun t wx => t = .bool odd ∧ wx = w2)
              case first =>
                go_upto_region 24 with (fail)
                go_cut [13] (fun t wx => t = .int .i8 F ∧ wx = w2)
                case first =>
                  by_cases hcap : cap = i + 1
                  · have hnn : n = i + 1 := by omega
                    have hnil : ds.drop (i + 1) = [] := by rw [List.drop_eq_nil_iff]; have := HL.out; omega
                    have HFI := Lib.hid (first_any (some ⟨G, o, none⟩) [] 0 0 w2 rfl (.inl rfl) (by omega))
                    have e3 := HFF.out
                    rw [hnil] at e3
                    rw [e3] at HFI
                    clear e3 hnil HST HDR
                    subst hcap
                    subst hnn
                    go_wp2_with (go_at_call 125; refine (HFI.out).mono ?_; rintro e w' ⟨rfl, hw'⟩; have hw2 := hw'.symm; clear hw'; subst hw2)
                    go_meet
                    exact ⟨rfl, rfl⟩
                  · have HFI := Lib.hid (first_any (some ⟨G, o + (i + 1), none⟩) (ds.drop (i + 1)) (n - (i + 1)) (cap - (i + 1)) w2 (by rw [List.length_drop, HL.out]) (rd_drop HDR.out (i + 1)) (by omega))
                    rw [HFF.out] at HFI
                    go_wp2_with (go_at_call 125; refine (HFI.out).mono ?_; rintro e w' ⟨rfl, hw'⟩; have hw2 := hw'.symm; clear hw'; subst hw2)
                    go_meet
                    exact ⟨rfl, rfl⟩
                case rest =>
                  obtain ⟨rfl, hwx⟩ := hcut
                  have hwx' := hwx.symm
                  clear hwx
                  subst hwx'
                  by_cases f1 : F = 1
                  · subst f1
                    go_wp2_with (fail)
                    go_meet
                    exact ⟨by rw [← hodd]; rfl, rfl⟩
                  · by_cases f2 : F = 2
                    · subst f2
                      go_wp2_with (fail)
                      go_meet
                      exact ⟨by rw [← hodd]; rfl, rfl⟩
                    · have f1' : (F == 1) = false := by simpa using f1
                      have f2' : (F == 2) = false := by simpa using f2
                      go_wp2_with (fail)
                      go_meet
                      exact ⟨by rw [← hodd, decide_eq_false f1, decide_eq_false f2]; rfl, rfl⟩
              case rest =>
                obtain ⟨rfl, hwx⟩ := hcut
                have hwx' := hwx.symm
                clear hwx
                subst hwx'
                cases rm with
                | true =>
                  go_wp2_with (go_at_call 148; refine HLAY.out.mono ?_; rintro e w3 ⟨rfl, R', a1, a2, a3⟩; obtain ⟨c1, c2, f1, f2⟩ := iso_cells a1)
                  go_meet
                  exact KT.out (by first | rfl | trivial) w3 R' a1 a2 a3
                | false =>
                  go_wp2_with (go_at_call 148; refine HLAY.out.mono ?_; rintro e w3 ⟨rfl, R', a1, a2, a3⟩; obtain ⟨c1, c2, f1, f2⟩ := iso_cells a1)
                  go_meet
                  exact KF.out (by first | rfl | trivial) w3 R' a1 a2 a3
          · have hst := hst.trans (if_neg cb)
            by_cases cc : d = 22
            · have hst := hst.trans (if_pos cc)
              have HS := Lib.hid hst
              subst cc
              have okc := REL.out.ok.close
              have HCL := Lib.hid (close_any w2 _ p R P i HP2.out REL.out.ok (by omega))
              have hcf := stV_f0 P.close.top
              clear hst ca cb
              go_wp2_with (first | (go_at_call 149; refine HCL.out.mono ?_; rintro e w3 ⟨rfl, R', a1, a2, a3⟩) | (go_at_call 145; refine (top_any w3 _ p R' P.close a1 okc.ne).mono ?_; rintro e w4 ⟨rfl, hw4⟩) | (go_at_call 146; refine (said_any w4 _ p R' P.close 22 (a1.keep hw4) okc.ne).mono ?_; rintro e w5 ⟨rfl, hw5⟩))
              go_meet
              rw [HS.out]
              exact ⟨p, R', rfl, rfl, rfl, (a1.keep hw4).keep hw5, .inl rfl, a2.imp id (fun h => Nat.le_trans hs2 h), (((Keep2.of HB2.out).trans a3 (.inl rfl)).trans (Keep2.of hw4) (.inl rfl)).trans (Keep2.of hw5) (.inl rfl)⟩
            · have hst := hst.trans (if_neg cc)
              by_cases cd : d = 18
              · have hst := hst.trans (if_pos cd)
                have HS := Lib.hid hst
                subst cd
                have okc := REL.out.ok.fin
                have HCL := Lib.hid (fin_any w2 _ p R P HP2.out REL.out.ok.ne (by omega) (by omega))
                have hcf := stV_f0 P.fin.top
                clear hst ca cb cc
                go_wp2_with (first | (go_at_call 150; refine HCL.out.mono ?_; rintro e w3 ⟨rfl, R', a1, a2, a3⟩) | (go_at_call 145; refine (top_any w3 _ p R' P.fin a1 okc.ne).mono ?_; rintro e w4 ⟨rfl, hw4⟩))
                go_meet
                rw [HS.out]
                exact ⟨p, R', rfl, rfl, rfl, a1.keep hw4, .inl rfl, a2.imp id (fun h => Nat.le_trans hs2 h), ((Keep2.of HB2.out).trans a3 (.inl rfl)).trans (Keep2.of hw4) (.inl rfl)⟩
              · have hst := hst.trans (if_neg cd)
                by_cases ce : d = 9
                · have hst := hst.trans (if_pos ce)
                  have HS := Lib.hid hst
                  subst ce
                  clear hst ca cb cc cd
                  go_wp2_with (fail)
                  go_meet
                  rw [HS.out]
                  exact HSAME.out 9
                · have hst := hst.trans (if_neg ce)
                  by_cases cf : d = 10
                  · have hst := hst.trans (if_pos cf)
                    have HS := Lib.hid hst
                    subst cf
                    clear hst ca cb cc cd ce
                    have hBs : w.heap.size + 1 ≤ w2.heap.size := by have := REL.out.sz; omega
                    have hB1 : w.heap.size < w2.heap.size := by omega
                    have e0' : ((w2.alloc (.cells #[.int .u8 base, .int .i8 (-1), .bool false] 215)).alloc (.cells #[.slice (some ⟨w2.heap.size, 0, none⟩) 1 1, .int .i64 0, .int .i64 0, .int .i64 0] 219)).cell? ⟨w.heap.size, 0, none⟩ = some (.int .u8 base) := by
                      rw [← e0]
                      exact World.cell?_of_block ((Below.heap_alloc _ _ _ (by simp; omega)).trans (Below.heap_alloc _ _ _ hB1))
                    go_wp2_with (fail)
                    go_meet
                    rw [HS.out]
                    exact ⟨w2.heap.size + 1, w2.heap.size, rfl, rfl, rfl, newPile w2 _ base hBs, .inr (by omega), .inr hs2, ((Keep2.of HB2.out).alloc _).alloc _⟩
                  · have hst := hst.trans (if_neg cf)
                    have HS := Lib.hid hst
                    have n14 : (d == 14) = false := by rw [beq_eq_false_iff_ne]; omega
                    have n15 : (d == 15) = false := by rw [beq_eq_false_iff_ne]; omega
                    have n16 : (d == 16) = false := by rw [beq_eq_false_iff_ne]; omega
                    have n17 : (d == 17) = false := by rw [beq_eq_false_iff_ne]; omega
                    have n18 : (d == 18) = false := by rw [beq_eq_false_iff_ne]; omega
                    have n19 : (d == 19) = false := by rw [beq_eq_false_iff_ne]; omega
                    have n20 : (d == 20) = false := by rw [beq_eq_false_iff_ne]; omega
                    have n21 : (d == 21) = false := by rw [beq_eq_false_iff_ne]; omega
                    have n22 : (d == 22) = false := by rw [beq_eq_false_iff_ne]; omega
                    have n9 : (d == 9) = false := by rw [beq_eq_false_iff_ne]; omega
                    have n10 : (d == 10) = false := by rw [beq_eq_false_iff_ne]; omega
                    clear hst ca cb cc cd ce cf
                    go_wp2_with (fail)
                    go_meet
                    rw [HS.out]
                    exact HSAME.out sd
      case rest =>
        obtain ⟨p', R', rfl, rfl, rfl, b1, b2, b3, b4⟩ := hcut
        obtain ⟨S, hS⟩ : ∃ S, P.step base ds i = S := ⟨_, rfl⟩
        obtain ⟨q, hq⟩ : ∃ q, m = q + 1 := ⟨m - 1, by omega⟩
        subst hq
        have HLO := Lib.hid (b4.own REL.out.lown fun g hg => ⟨(REL.out.la g hg).1, (REL.out.la g hg).2.1⟩)
        have HKO := Lib.hid (b4.own REL.out.kown fun g hg => REL.out.ka g hg)
        have hzc := b4.size
        have hzr := REL.out.sz
        have hll : ls.length ≤ 2097152 := by have := REL.out.ll; omega
        have hkl : ks.length ≤ 2097152 := by have := REL.out.kl; omega
        rw [hS] at b1 ⊢
        have HSS := Lib.hid hS
        obtain ⟨SP, Sl, Sk⟩ := S
        clear hS HST HDR e0 e1 e2 hlv hs2 hf0
        go_wp2_with (first
          | (at_builtin; refine wpList_append_own_at _ rfl _ _ 42 rfl (w.heap.size + 1) 5 i5 (.int .u8 0) 1 1 Tryz.underlying42 hi5 hz5 ha5 hb5 rfl (by decide) _ ls.length _ rfl (HLO.out.alloc _) ⟨wc.heap.size, 0, none⟩ 1 1 [.int .u8 (Sl : Nat)] rfl rfl (cell_one_new _ _ _) (by simp [Value.oneCell']) (by unfold maxLen; omega) (by omega) (by simp; omega) ?_; intro v4 w4 o4 g1 _ l4; have HKO4 := Lib.hid (ownsRow_ne (HKO.out.alloc _) g1 (fun g hg e => (REL.out.la g e).2.2 hg)); have hz4 := g1.size; rw [World.size_alloc] at hz4; have O4 := Lib.hid o4; have G1 := Lib.hid g1; have L4 := Lib.hid l4; clear o4 g1 l4)
          | (at_builtin; refine wpList_append_own_at _ rfl _ _ 142 rfl (w.heap.size + 1) 22 i40 (.int .i8 0) 1 1 Tryz.underlying142 hi40 hz40 ha40 hb40 rfl (by decide) _ ks.length _ rfl (HKO4.out.alloc _) ⟨w4.heap.size, 0, none⟩ 1 1 [.int .i8 Sk] rfl rfl (cell_one_new _ _ _) (by simp [Value.oneCell']) (by unfold maxLen; omega) (by omega) (by simp; omega) ?_; intro v5 w5 o5 g2 _ l5))
        go_roundw
        case rel => exact ⟨i + 1, q, SP, p', R', ls ++ [Sl], ks ++ [Sk], rfl, by go_num, lev_next REL.out hb HSS.out b1 b2 b3 b4 G1.out O4.out L4.out g2 o5 l5⟩
        case measure => simp [intOf]; omega
    · have hm0 : m = 0 := by omega
      have REL := Lib.hid rel
      obtain ⟨la, lc, hlv, hlc1, hlc2⟩ := own_slice rel.lown
      obtain ⟨ka, kc, hkv, hkc1, hkc2⟩ := own_slice rel.kown
      subst hlv hkv hm0
      clear rel
      go_wp2_with (fail)
      go_ret2
      have r := REL.out
      have hll := r.ll
      have hkl := r.kl
      have hin : i = n := by omega
      have he := r.eq
      rw [levF] at he
      have h1 : (levI ds base).1 = ls := by rw [← he]
      have h2 : (levI ds base).2 = ks := by rw [← he]
      refine ⟨la, lc, ka, kc, by rw [hll, hkl, hin]; rfl, ?_, ?_, r.bel⟩
      · rw [h1]
        have := ownsRow_base (base' := w.heap.size) r.lown (by omega)
        unfold OutAt
        have e : (ints ls).length = ls.length := by unfold ints; simp
        rw [e]; exact this
      · rw [h2]
        exact ownsRow_base (base' := w.heap.size) r.kown (by omega)
end
section
set_option linter.unusedVariables false
set_option linter.unusedSimpArgs false
open Go.RowKit Go.Maps

theorem Tryz.info_ints : (Tryz.prog.info? 56).map (fun i => (i.zero, i.size, i.bytes)) = some (some (.slice none 0 0), 1, 24) := by kernel_rfl
theorem zero_int (w : World) : (zeroValue 3).run Tryz.prog w = .ok (.int .i64 0) w := by kernel_rfl
theorem key_law : Keyed Tryz.prog 3 := int_keyed Tryz.underlying3
theorem NestAt.base {w : World} {b b' ts ti : Nat} {v : Value} {out : List (List Nat)} (h : NestAt w b ts ti v out) (hb : b' ≤ b) : NestAt w b' ts ti v out := by
  obtain ⟨ss, h1, h2, h3⟩ := h
  exact ⟨ss, ownsRow_base h1 hb, fun k hk => ownsRow_base (h2 k hk) hb, h3⟩
def RunsPost (R : List (List Nat)) (w : World) (e : Ending) (w' : World) : Prop :=
  ∃ v, e = .returned v ∧ NestAt w' w.heap.size 56 3 v R ∧ Below w.heap.size w w'
/-- What lies in memory: the runs, the map, the partners. -/
structure RunW (w : World) (M n : Nat) (ps : List Int) (v : Value) (out : List (List Nat)) (D : DataW Unit) (cnt : Nat) (wx : World) : Prop where
  nest : NestAt wx (M + 1) 56 3 v out
  map : wx.ownsMap Tryz.prog 3 (plainElem Tryz.prog 3) M cnt D
  prs : OutAt .i64 3 wx w.heap.size (some ⟨w.heap.size, 0, none⟩) n ps
  lt : w.heap.size < M
  sz : M + 1 ≤ wx.heap.size
  bel : Below w.heap.size w wx
theorem RunW.drew {w wx : World} {M n cnt : Nat} {ps : List Int} {v : Value} {out : List (List Nat)} {D : DataW Unit} (h : RunW w M n ps v out D cnt wx) (q : Nat) : RunW w M n ps v out D cnt (wx.drewN q) :=
  ⟨h.nest.keep (bl_drewN (Below.refl _ _) q), h.map, h.prs, h.lt, h.sz, bl_drewN h.bel q⟩
theorem ownsRow_below {w w' : World} {base e size n X : Nat} {v : Value} {xs : List Value} (h : w.ownsRow base e size v n xs) (hb : Below X w w') (hx : ∀ g, v.ownBlock = some g → g < X) : w'.ownsRow base e size v n xs := by
  refine ⟨h.1, ?_⟩
  rcases h.2 with hn | ⟨g, cap, cur, rfl, h1, hg, r⟩
  · exact .inl hn
  · exact .inr ⟨g, cap, cur, rfl, h1, (hb.block g (hx g rfl)).trans hg, r⟩
/-- rows turn, the map and the partners do not -/
theorem RunW.turn {w wx w' : World} {M n cnt : Nat} {ps : List Int} {v v' : Value} {out out' : List (List Nat)} {D : DataW Unit} (h : RunW w M n ps v out D cnt wx) (hb : Below (M + 1) wx w')
    (hn : NestAt w' (M + 1) 56 3 v' out') : RunW w M n ps v' out' D cnt w' := by
  have hlt := h.lt
  refine ⟨hn, ?_, ownsRow_below h.prs hb (fun g hg => by cases hg; exact Nat.lt_succ_of_lt hlt), h.lt, Nat.le_trans h.sz hb.size, h.bel.trans (hb.mono (by omega))⟩
  obtain ⟨es, clock, hbk, F, hs, hD⟩ := h.map
  exact ⟨es, clock, (hb.block M (by omega)).trans hbk, F, hs, hD⟩
theorem RunW.keep {w wx w' : World} {M n cnt : Nat} {ps : List Int} {v : Value} {out : List (List Nat)} {D : DataW Unit} (h : RunW w M n ps v out D cnt wx) (hb : Below wx.heap.size wx w') : RunW w M n ps v out D cnt w' :=
  h.turn (hb.mono h.sz) (h.nest.keep hb)
/-- the map turns alone -/
theorem RunW.mapped {w wx w' : World} {M n cnt cnt' : Nat} {ps : List Int} {v : Value} {out : List (List Nat)} {D D' : DataW Unit} (h : RunW w M n ps v out D cnt wx) (hm : w'.ownsMap Tryz.prog 3 (plainElem Tryz.prog 3) M cnt' D') (hg : wx.grownBy w' (some M)) :
    RunW w M n ps v out D' cnt' w' := by
  have hlt := h.lt
  refine ⟨h.nest.far hg (fun g e => by cases e; omega), hm, World.ownsRow.kept h.prs hg (.inr fun e => by simp [Value.ownBlock] at e; omega), h.lt, Nat.le_trans h.sz hg.size, h.bel.grown hg (by have := h.sz; omega) (fun k e => by cases e; omega)⟩
theorem RunW.snoc {w wx : World} {M n cnt : Nat} {ps : List Int} {v : Value} {out : List (List Nat)} {D : DataW Unit} (h : RunW w M n ps v out D cnt wx) :
    ∃ ss, wx.ownsRow (M + 1) 56 1 v out.length ss ∧ ∀ o1 v' w', w'.ownsRow (M + 1) 56 1 v' (out.length + 1) (ss ++ [.slice none 0 0]) → (wx.alloc o1).grownBy w' v.ownBlock →
      (v'.ownBlock = v.ownBlock ∨ v'.ownBlock = some (wx.alloc o1).heap.size) → RunW w M n ps v' (out ++ [[]]) D cnt w' := by
  obtain ⟨ss, n1, n2, n3⟩ := h.nest
  have hsz := h.sz
  refine ⟨ss, n1, fun o1 v' w' ho hg hl => ?_⟩
  have hga := (World.grownBy_alloc wx o1 v.ownBlock).trans hg
  have hvb := fun g (hv : v.ownBlock = some g) => (n1.lt g hv).1
  refine h.turn (((Below.refl (M + 1) wx).alloc hsz o1).grown hg (by rw [World.size_alloc]; omega) hvb) (NestAt.grown (w1 := wx) n2 n3 (by have := n1.1; omega) hga ho ?_)
  rcases hl with e | e
  · exact .inl e
  · exact .inr ⟨_, e, by rw [World.size_alloc]; omega⟩
theorem RunW.elem {w wx : World} {M n cnt : Nat} {ps : List Int} {v : Value} {out : List (List Nat)} {D : DataW Unit} (h : RunW w M n ps v out D cnt wx) (k i : Nat) (hk : k < out.length) :
    ∃ G cap a c, v = .slice (some ⟨G, 0, none⟩) out.length cap ∧ wx.cell? ⟨G, k, none⟩ = some (.slice a (out.getD k []).length c) ∧ wx.frozen? ⟨G, k, none⟩ = false ∧ cap ≤ maxLen ∧ out.length ≤ cap ∧ (out.getD k []).length ≤ c ∧ c ≤ maxLen ∧
      wx.ownsRow (M + 1) 3 1 (.slice a (out.getD k []).length c) (out.getD k []).length (nats (out.getD k [])) ∧
      ∀ o1 s' w', w'.ownsRow (M + 1) 3 1 s' ((out.getD k []).length + 1) (nats (out.getD k []) ++ [.int .i64 (i : Nat)]) → (wx.alloc o1).grownBy w' (Value.slice a (out.getD k []).length c).ownBlock →
        (s'.ownBlock = (Value.slice a (out.getD k []).length c).ownBlock ∨ s'.ownBlock = some (wx.alloc o1).heap.size) →
        w'.cell? ⟨G, k, none⟩ = some (.slice a (out.getD k []).length c) ∧ w'.frozen? ⟨G, k, none⟩ = false ∧ RunW w M n ps v (out.set k (out.getD k [] ++ [i])) D cnt (w'.setCell ⟨G, k, none⟩ s') := by
  obtain ⟨G, cap, s, hv, hG1, hG2, hc, hf, hcm, hs, hsG, back⟩ := h.nest.elem k hk
  obtain ⟨a, c, rfl, hc1, hc2⟩ := own_slice hs
  have hsz := h.sz
  have hcap : out.length ≤ cap := by
    obtain ⟨a', cap', e, e1, e2⟩ := h.nest.shape
    rw [hv] at e; cases e; exact e1
  refine ⟨G, cap, a, c, hv, hc, hf, hcm, hcap, hc1, hc2, hs, fun o1 s' w' ho hg hl => ?_⟩
  have hga := (World.grownBy_alloc wx o1 (Value.slice a (out.getD k []).length c).ownBlock).trans hg
  have hGh : w'.heap[G]? = wx.heap[G]? := hga.block G hG2 (fun e => hsG e.symm)
  refine ⟨(World.cell?_of_block (a := ⟨G, k, none⟩) hGh).trans hc, (World.frozen?_of_block (a := ⟨G, k, none⟩) hGh).trans hf, ?_⟩
  have hvb := fun g (hv : (Value.slice a (out.getD k []).length c).ownBlock = some g) => (hs.lt g hv).1
  refine h.turn ((((Below.refl (M + 1) wx).alloc hsz o1).grown hg (by rw [World.size_alloc]; omega) hvb).setCell (p := ⟨G, k, none⟩) hG1 _) (back w' s' (out.getD k [] ++ [i]) ?_ hga ?_)
  · rw [List.length_append, List.length_singleton, nats_snoc]; exact ho
  · rcases hl with e | e
    · exact .inl e
    · exact .inr ⟨_, e, by rw [World.size_alloc]; omega⟩
theorem RSt.at_none (s : RSt) (ps : List Int) (i : Nat) (h : gfind s.goes i = none) : s.at ps i = none := by
  have : s.find i = none := h
  unfold RSt.at
  rw [this]
theorem RSt.at_some (s : RSt) (ps : List Int) (i k : Nat) (h : gfind s.goes i = some k) : s.at ps i = if (((s.out.getD k []).getLastD 0 : Nat) : Int) ≠ ith ps i then none else some k := by
  have : s.find i = some k := h
  unfold RSt.at
  rw [this]
structure RunRel (w : World) (M n : Nat) (ds ls ps : List Int) (fin : List (List Nat)) (i m : Nat) (s : RSt) (D : DataW Unit) (v : Value) (wx : World) : Prop where
  im : i + m = n
  rw_ : RunW w M n ps v s.out D i wx
  mp : MapIs D s.goes
  ok : s.Ok i
  eq : (runsF ds ls ps m i s).out = fin
theorem put_out (s : RSt) (k i : Nat) (last : Int) (g : List (Nat × Nat)) (hk : k ≤ s.out.length) (out' : List (List Nat)) (ho : out' = if k < s.out.length then s.out else s.out ++ [[]]) :
    (s.put k i last g).out = out'.set k (out'.getD k [] ++ [i]) ∧ k < out'.length := by
  unfold RSt.put
  by_cases h : k < s.out.length
  · rw [if_pos h] at ho
    rw [if_pos h, ho]
    exact ⟨rfl, h⟩
  · rw [if_neg h] at ho
    have hke : k = s.out.length := by omega
    rw [if_neg h, ho]
    refine ⟨?_, by simp; omega⟩
    rw [List.getD_eq_getElem?_getD, hke, List.getElem?_append_right (Nat.le_refl _), Nat.sub_self, List.set_append_right _ _ (Nat.le_refl _), Nat.sub_self]
    rfl
set_option maxRecDepth 100000 in
set_option maxHeartbeats 1000000 in
theorem LRuns_any (a la : Option Addr) (ds ls : List Int) (n cap lc : Nat) (w : World) (hl : ds.length = n) (hll : ls.length = n) (hd : Rd .i8 w a ds) (hls : Rd .u8 w la ls) (hn : n ≤ 2097152) (hnc : n ≤ cap) (hcm : cap ≤ 9223372036854775807) :
    Calls Tryz.prog 128 #[.slice a n cap, .slice la n lc] w (RunsPost (runsI ds ls) w) := by
  obtain ⟨i3, hi3, hz3, ha3, hb3⟩ := info_parts (Tryz.info_int)
  obtain ⟨i32, hi32, hz32, ha32, hb32⟩ := info_parts (Tryz.info_ints)
  have HL := Lib.hid hl
  have HLL := Lib.hid hll
  have HPA := Lib.hid (LPairs_any a ds n cap w hl hd hn)
  obtain ⟨ps, hps⟩ : ∃ ps, pairsI ds = ps := ⟨_, rfl⟩
  have hI : runsI ds ls = (runsF ds ls ps n 0 ⟨[], [], -1, -1⟩).out := by
    rw [← hps]; unfold runsI
    have e : min ds.length ls.length = n := by omega
    have e2 : ds.take n = ds := by rw [← hl]; exact List.take_length
    simp only [e, e2]
  have hpb := fun j => pairsI_bd ds j
  rw [hps, hl] at hpb
  unfold LPairsPost at HPA
  rw [hps] at HPA
  rw [hI]
  have HPB := Lib.hid hpb
  clear hps hI hl hll hpb
  have hmm := @run_makeMap Tryz.prog
  have g0 : (n : Int) ≤ (cap : Int) := by omega
  go_enter Tryz.func128, Tryz.ntmps128
  go_wp2_with (go_at_call 151; refine HPA.out.mono ?_; rintro e w1 ⟨rfl, hpl, hO1, hb1⟩)
  have hbm : Below w.heap.size w (w1.alloc (.map #[] 0)) := hb1.alloc hb1.size _
  have hlt1 : w.heap.size < w1.heap.size := hO1.lt.2
  have hrel0 : RunW w w1.heap.size n ps (.slice none 0 0) [] (.map []) 0 (w1.alloc (.map #[] 0)) :=
    ⟨NestAt.nil _ _ _ _, World.ownsMap_made _ _ _ _, World.ownsRow.alloc hO1 _, hlt1, by simp, hbm⟩
  clear hmm
  obtain ⟨M, hM⟩ : ∃ M, w1.heap.size = M := ⟨_, rfl⟩
  obtain ⟨fin, hfin⟩ : ∃ fin, (runsF ds ls ps n 0 ⟨[], [], -1, -1⟩).out = fin := ⟨_, rfl⟩
  rw [hM] at hrel0 ⊢
  rw [hfin]
  have HFIN := Lib.hid hfin
  clear hM hfin hbm
  go_loopw [7, 9, 10, 27] (fun u7 u9 u10 u27 wx => ∃ i m s D, u9 = .int .i64 s.now ∧ u10 = .int .i64 s.last ∧ u27 = .int .i64 (i : Nat) ∧ RunRel w M n ds ls ps fin i m s D u7 wx) (fun _ _ _ c _ => n - (intOf c).toNat)
  case atStart => exact ⟨0, n, ⟨[], [], -1, -1⟩, .map [], rfl, rfl, rfl, ⟨by omega, hrel0, MapIs.nil, RSt.start_ok, HFIN.out⟩⟩
  case round =>
    obtain ⟨i, m, s, D, rfl, rfl, rfl, rel⟩ := hrel
    have him := rel.im
    clear hrel0
    by_cases hi : i < n
    · obtain ⟨q, hq⟩ : ∃ q, m = q + 1 := ⟨m - 1, by omega⟩
      subst hq
      obtain ⟨G, o, rfl, hGl, hGc⟩ := hd.at rel.rw_.bel i (by have := HL.out; omega)
      obtain ⟨y, hy⟩ : ∃ y, ith ds i = y := ⟨_, rfl⟩
      rw [hy] at hGc
      obtain ⟨d, hd'⟩ : ∃ d, lkn y = d := ⟨_, rfl⟩
      have hstep := rel.ok.step_put ds ls ps
      rw [hy, hd'] at hstep
      have HD : Hid (∀ W, Calls Tryz.prog 124 #[.int .i8 y] W fun e w' => e = .returned (.int .i8 d) ∧ W = w') := Lib.hid fun W => by rw [← hd']; exact lknown_any y W
      have HS := Lib.hid hstep
      have REL := Lib.hid rel
      have HY := Lib.hid hy
      have HDD := Lib.hid hd'
      have now0 := rel.ok.now0
      have now1 := rel.ok.now1
      have last0 := rel.ok.last0
      have last1 := rel.ok.last1
      have olen := rel.ok.len
      have hnx : Hid (∀ D' v' w', RunW w M n ps v' (s.step ds ls ps i).out D' (i + 1) w' → MapIs D' (s.step ds ls ps i).goes → RunRel w M n ds ls ps fin (i + 1) q (s.step ds ls ps i) D' v' w') := Lib.hid fun D' v' w' h1 h2 =>
        ⟨by omega, h1, h2, rel.ok.step ds ls ps, by rw [← rel.eq, runsF]⟩
      obtain ⟨lb, hlb⟩ : ∃ lb, leftB d = lb := ⟨_, rfl⟩
      have HLB : Hid (∀ W, Calls Tryz.prog 152 #[.int .i8 d] W fun e w' => e = .returned (.bool lb) ∧ W = w') := Lib.hid fun W => by rw [← hlb]; exact lleft_any d W
      rw [hlb] at HS
      obtain ⟨nw, hnw⟩ : ∃ nw, s.now = nw := ⟨_, rfl⟩
      obtain ⟨lt, hlt⟩ : ∃ lt, s.last = lt := ⟨_, rfl⟩
      have HNW := Lib.hid hnw
      have HLT := Lib.hid hlt
      rw [hnw] at now0 now1 ⊢
      rw [hlt] at last0 last1 ⊢
      clear hy hd' rel hstep hlb hnw hlt
      go_upto_region 11 with (go_at_call 124; refine (HD.out _).mono ?_; rintro e w' ⟨rfl, hw'⟩; subst hw')
      cases lb with
      | true =>
        have HS2 := Lib.hid (HS.out.trans (if_pos rfl))
        go_wp2_with (go_at_call 152; refine (HLB.out _).mono ?_; rintro e w' ⟨rfl, hw'⟩; subst hw')
        go_roundw
        case rel => exact ⟨i + 1, q, s, D, HNW.out ▸ rfl, HLT.out ▸ rfl, by go_num, by
          have := hnx.out D u7 wr
          rw [HS2.out] at this
          exact this ⟨REL.out.rw_.nest, REL.out.rw_.map.mono (by omega), REL.out.rw_.prs, REL.out.rw_.lt, REL.out.rw_.sz, REL.out.rw_.bel⟩ REL.out.mp⟩
        case measure => simp [intOf]; omega
      | false =>
        have HS2 := Lib.hid (HS.out.trans (if_neg (by decide)))
        clear HS
        go_upto_region 12 with (go_at_call 152; refine (HLB.out _).mono ?_; rintro e w' ⟨rfl, hw'⟩; subst hw')
        obtain ⟨fresh, hfr⟩ : ∃ fresh, fresh = (decide (s.now < 0) || decide (s.last < 0) || (ith ls s.last.toNat != ith ls i)) := ⟨_, rfl⟩
        have hpk : s.pick ls ps i = if fresh = true then (s.at ps i).getD s.out.length else s.now.toNat := by
          unfold RSt.pick
          have e : (s.now < 0 ∨ s.last < 0 ∨ ith ls s.last.toNat ≠ ith ls i) ↔ fresh = true := by
            rw [hfr]; simp [or_assoc]
          by_cases h : fresh = true
          · rw [if_pos (e.2 h), if_pos h]
          · rw [if_neg (fun h' => h (e.1 h')), if_neg h]
        have hpl2 := REL.out.ok.pick_le ls ps
        have HFR : Hid (fresh = (decide (nw < 0) || decide (lt < 0) || (ith ls lt.toNat != ith ls i))) := Lib.hid (by rw [← HNW.out, ← HLT.out]; exact hfr)
        have HPK := Lib.hid hpk
        have hBel := REL.out.rw_.bel
        have HB := Lib.hid hBel
        clear hfr hpk hGc hBel
        go_cut [53] (fun t wx => t = .bool fresh ∧ RunW w M n ps u7 s.out D i wx ∧ Below wr.heap.size wr wx)
        case first =>
          have hfin' : ∀ b : Bool, b = fresh → ∀ q', (.bool b : Value) = .bool fresh ∧ RunW w M n ps u7 s.out D i (wr.drewN q') ∧ Below wr.heap.size wr (wr.drewN q') := fun b hb q' => ⟨by rw [hb], REL.out.rw_.keep (bl_drewN (Below.refl _ _) q'), bl_drewN (Below.refl _ _) q'⟩
          have HFI := Lib.hid hfin'
          clear hpl2 olen now1 hfin' him
          by_cases h1 : nw < 0
          · have HF1 : Hid (true = fresh) := Lib.hid (by rw [HFR.out]; simp [h1])
            go_quiet (fail)
            go_wp2_with (fail)
            go_meet
            exact HFI.out _ HF1.out _
          · by_cases h2 : lt < 0
            · have HF1 : Hid (true = fresh) := Lib.hid (by rw [HFR.out]; simp [h2])
              go_quiet (fail)
              go_wp2_with (fail)
              go_meet
              exact HFI.out _ HF1.out _
            · obtain ⟨l, rfl⟩ : ∃ l : Nat, lt = l := ⟨lt.toNat, by omega⟩
              obtain ⟨G2, o2, rfl, hGl2, hL1⟩ := hls.at HB.out i (by have := HLL.out; omega)
              obtain ⟨G3, o3, hG3, hGl3, hL2⟩ := hls.at HB.out l (by have := HLL.out; omega)
              cases hG3
              have HF1 : Hid ((ith ls l != ith ls i) = fresh) := Lib.hid (by rw [HFR.out, decide_eq_false h1, decide_eq_false h2, Int.toNat_natCast]; rfl)
              have k0 : (0 : Int) ≤ (l : Int) := by omega
              have k1 : (l : Int) < (n : Int) := by omega
              have k2 : (i : Int) < (n : Int) := by omega
              have k3 : (0 : Int) ≤ (i : Int) := by omega
              generalize ith ls l = y1 at hL2 HF1
              generalize ith ls i = y2 at hL1 HF1
              clear h2
              go_quiet (fail)
              go_wp2_with (fail)
              go_meet
              exact HFI.out _ HF1.out _
        case rest =>
          obtain ⟨rfl, hw53, hb53⟩ := hcut
          obtain ⟨k, hk⟩ : ∃ k, s.pick ls ps i = k := ⟨_, rfl⟩
          rw [hk] at HPK HS2 hpl2
          obtain ⟨oL, hoL⟩ : ∃ oL, s.out.length = oL := ⟨_, rfl⟩
          have W53 := Lib.hid hw53
          obtain ⟨ao, oc, hv, hoc1, hoc2⟩ := hw53.nest.shape
          rw [hoL] at hv hoc1 olen hpl2 now1
          subst hv
          have HOL := Lib.hid hoL
          have HK := Lib.hid hk
          clear hw53 hoL hk
          go_upto_if 53 with (fail)
          go_cut [7, 9] (fun v7 v9 wx => v9 = .int .i64 (k : Nat) ∧ ∃ out', out' = (if k < s.out.length then s.out else s.out ++ [[]]) ∧ RunW w M n ps v7 out' D i wx)
          case first =>
            cases fresh with
            | false =>
              have hnw : 0 ≤ nw := by
                have := HFR.out
                by_cases h : nw < 0
                · rw [decide_eq_true h] at this; simp at this
                · omega
              have hkn : k = nw.toNat := HPK.out.trans (by rw [if_neg (by decide), HNW.out])
              have hkn' : nw = (k : Int) := by omega
              have HKN := Lib.hid hkn'
              clear hkn hkn'
              go_wp2_with (fail)
              go_meet
              exact ⟨by rw [HKN.out], s.out, by rw [if_pos (by have := HOL.out; have := HKN.out; omega)], W53.out⟩
            | true =>
              have hka : k = (s.at ps i).getD s.out.length := HPK.out.trans (if_pos rfl)
              have HKA := Lib.hid hka
              clear hka
              obtain ⟨fo, hfo⟩ : ∃ fo, gfind s.goes i = fo := ⟨_, rfl⟩
              cases fo with
              | none =>
                have hh := REL.out.mp.none_ i hfo
                have HAT := Lib.hid (RSt.at_none s ps i hfo)
                clear hfo
                go_upto_region 14 with (at_lookup; refine wpList_lookup_own_ok_int _ rfl _ _ 29 rfl 3 3 .i64 key_law Tryz.underlying29 Tryz.underlying3 (zero_int _) M i D rfl W53.out.map _ _ rfl (keyOf_int_mk Tryz.underlying3 (WalkArith.wf_i64 (by omega))) ?_; intro c hat hwc)
                go_cut [80] (fun t wx => t = .bool true ∧ RunW w M n ps (.slice ao oL oc) s.out D i wx)
                case first =>
                  clear hat
                  go_quiet (fail)
                  go_wp2_with (fail)
                  go_meet
                  exact ⟨rfl, W53.out.keep (bl_drewN (Below.refl _ _) _)⟩
                case rest =>
                  obtain ⟨rfl, hw80⟩ := hcut
                  clear hat hh
                  rw [HAT.out] at HKA
                  have hke : k = oL := HKA.out.trans HOL.out
                  subst hke
                  obtain ⟨ss, n1, n2⟩ := hw80.snoc
                  rw [HOL.out] at n1 n2
                  have SN1 := Lib.hid n1
                  have SN2 := Lib.hid n2
                  have hsz := hw80.sz
                  clear n1 n2
                  go_wp2_with (at_builtin; refine wpList_append_own_at _ rfl _ _ 189 rfl (M + 1) 56 i32 (.slice none 0 0) 1 24 Tryz.underlying189 hi32 hz32 ha32 hb32 rfl (by decide) _ k _ rfl (SN1.out.alloc _) ⟨wc.heap.size, 0, none⟩ 1 1 [.slice none 0 0] rfl rfl (cell_one_new _ _ _) (by simp [Value.oneCell']) (by unfold maxLen; omega) (by omega) (by simp; omega) ?_; intro v' w' ho hg _ hl)
                  go_meet
                  exact ⟨rfl, s.out ++ [[]], by rw [if_neg (by rw [HOL.out]; omega)], SN2.out _ _ _ ho hg hl⟩
              | some kk =>
                have hh := (REL.out.mp.some_ i kk hfo).1
                have hat2 := (REL.out.mp.some_ i kk hfo).2
                have hkl : kk < s.out.length := REL.out.ok.find_lt hfo
                have HAT2 := Lib.hid hat2
                have HAT := Lib.hid (RSt.at_some s ps i kk hfo)
                clear hfo hat2
                obtain ⟨Gv, capv, ea, cs, hv2, hcell, _, hcapm, hcap1, hcs1, hcs2, hown, _⟩ := W53.out.elem kk i hkl
                rw [HOL.out] at hv2 hcap1
                have hne := (REL.out.ok.run kk hkl).1
                obtain ⟨nk, hnk⟩ : ∃ nk, (s.out.getD kk []).length = nk := ⟨_, rfl⟩
                have hnp : 0 < nk := by rw [← hnk]; exact List.length_pos_iff.2 hne
                obtain ⟨L, hL⟩ : ∃ L, nk = L + 1 := ⟨nk - 1, by omega⟩
                rw [hnk] at hcell hcs1 hown
                obtain ⟨Gk, hGk, _, _, hcells⟩ := own_cells hown hnp
                subst hGk
                have hlast := hcells L (by omega)
                rw [nats_get _ L (by omega)] at hlast
                obtain ⟨lv, hlv⟩ : ∃ lv : Nat, (s.out.getD kk []).getD L 0 = lv := ⟨_, rfl⟩
                have hlv2 : (s.out.getD kk []).getLastD 0 = lv := by
                  rw [List.getLastD_eq_getLast?, List.getLast?_eq_getElem?, hnk, hL, Nat.add_sub_cancel, ← hlv]
                  rw [List.getD_eq_getElem?_getD (l := s.out.getD kk [])]
                rw [hlv2] at HAT
                rw [hlv] at hlast
                obtain ⟨G1, hG1, _, _, hpc, _, _, _⟩ := OutAt.at W53.out.prs i (by rw [hpl]; exact hi)
                cases hG1
                cases hv2
                obtain ⟨px, hpx⟩ : ∃ px, ith ps i = px := ⟨_, rfl⟩
                rw [hpx] at hpc HAT
                have gk0 : (0 : Int) ≤ (kk : Int) := by omega
                have gk1 : (kk : Int) < (oL : Int) := by have := HOL.out; omega
                have gL0 : (0 : Int) ≤ (L : Int) := by omega
                have gL1 : (L : Int) < (nk : Int) := by omega
                have gi0 : (0 : Int) ≤ (i : Int) := by omega
                have gi1 : (i : Int) < (n : Int) := by omega
                have hwr : IntKind.i64.wrap ((nk : Int) - 1) = (L : Int) := by rw [IntKind.wrap_i64]; unfold maxLen at hcs2; omega
                have HLL2 := Lib.hid hL
                clear hcells hlv hlv2 hpx hnk hnp hne hown hL
                go_upto_region 14 with (at_lookup; refine wpList_lookup_own_ok_int _ rfl _ _ 29 rfl 3 3 .i64 key_law Tryz.underlying29 Tryz.underlying3 (zero_int _) M i D rfl W53.out.map _ _ rfl (keyOf_int_mk Tryz.underlying3 (WalkArith.wf_i64 (by omega))) ?_; intro c hat hwc; have hck : c = (kk : Int) := (by have e := hat.symm.trans HAT2.out; injection e with e; injection e); clear hat hwc; subst hck)
                go_cut [80] (fun t wx => t = .bool ((lv : Int) != px) ∧ RunW w M n ps (.slice (some ⟨Gv, 0, none⟩) oL oc) s.out D i wx)
                case first =>
                  clear hcm hoc2 hcs2 him now0 now1 last0 last1 olen hpl2 hlt1 hb53
                  go_quiet (fail)
                  go_wp2_with (fail)
                  go_meet
                  exact ⟨rfl, W53.out.keep (bl_drewN (Below.refl _ _) _)⟩
                case rest =>
                  obtain ⟨rfl, hw80⟩ := hcut
                  clear hh hcell hlast hpc hwr
                  by_cases hpq : (lv : Int) = px
                  · have hke : k = kk := HKA.out.trans (by rw [HAT.out, if_neg (fun h => h hpq)]; rfl)
                    subst hke
                    have HW80 := Lib.hid hw80
                    have hpb : ((lv : Int) != px) = false := by simp [hpq]
                    clear hpq hw80
                    go_wp2_with (fail)
                    go_meet
                    exact ⟨rfl, s.out, by rw [if_pos hkl], HW80.out⟩
                  · have hke : k = oL := HKA.out.trans (by rw [HAT.out, if_pos hpq]; exact HOL.out)
                    subst hke
                    have hpb : ((lv : Int) != px) = true := by simpa using hpq
                    obtain ⟨ss, n1, n2⟩ := hw80.snoc
                    rw [HOL.out] at n1 n2
                    have SN1 := Lib.hid n1
                    have SN2 := Lib.hid n2
                    have hsz := hw80.sz
                    clear n1 n2 hpq
                    go_wp2_with (at_builtin; refine wpList_append_own_at _ rfl _ _ 189 rfl (M + 1) 56 i32 (.slice none 0 0) 1 24 Tryz.underlying189 hi32 hz32 ha32 hb32 rfl (by decide) _ k _ rfl (SN1.out.alloc _) ⟨wc.heap.size, 0, none⟩ 1 1 [.slice none 0 0] rfl rfl (cell_one_new _ _ _) (by simp [Value.oneCell']) (by unfold maxLen; omega) (by omega) (by simp; omega) ?_; intro v' w' ho hg _ hl)
                    go_meet
                    exact ⟨rfl, s.out ++ [[]], by rw [if_neg (by rw [HOL.out]; omega)], SN2.out _ _ _ ho hg hl⟩
          case rest =>
            obtain ⟨rfl, out', hout', hwB⟩ := hcut
            have hkp := put_out s k i (if d = 10 then -1 else (i : Int)) (s.gone ds ps i k) (by rw [HOL.out]; exact hpl2) out' hout'
            have hnki : (out'.getD k []).length ≤ i := by
              rw [hout']
              by_cases h : k < s.out.length
              · rw [if_pos h]; exact (REL.out.ok.run k h).2.2
              · rw [if_neg h, List.getD_eq_getElem?_getD, List.getElem?_append_right (by omega)]
                have : k - s.out.length = 0 := by have := HOL.out; omega
                rw [this]; simp
            have hoNi : out'.length ≤ i + 1 := by
              rw [hout']
              have := HOL.out
              split
              · omega
              · simp; omega
            have HOUT : Hid ((s.step ds ls ps i).out = out'.set k (out'.getD k [] ++ [i])) := Lib.hid (by rw [HS2.out]; exact hkp.1)
            have HNOW : Hid ((s.step ds ls ps i).now = k) := Lib.hid (by rw [HS2.out]; rfl)
            have HLAST : Hid ((s.step ds ls ps i).last = if d = 10 then -1 else (i : Int)) := Lib.hid (by rw [HS2.out]; rfl)
            have HGOES : Hid ((s.step ds ls ps i).goes = if opensB d = true ∧ 0 ≤ ith ps i then ((ith ps i).toNat, k) :: s.goes else s.goes) := Lib.hid (by rw [HS2.out]; show s.gone ds ps i k = _; unfold RSt.gone; rw [HY.out, HDD.out])
            obtain ⟨Gn, capn, an, cn, hvn, hcell, hfr, hcapm, hcap1, hcn1, hcn2, hown, hback⟩ := hwB.elem k i hkp.2
            subst hvn
            obtain ⟨nk, hnk⟩ : ∃ nk, (out'.getD k []).length = nk := ⟨_, rfl⟩
            obtain ⟨oN, hoN⟩ : ∃ oN, out'.length = oN := ⟨_, rfl⟩
            have hkl := hkp.2
            have hsz := hwB.sz
            rw [hnk] at hcell hcn1 hown hback hnki
            rw [hoN] at hcap1 hkl hoNi hback ⊢
            obtain ⟨pn, hpn⟩ : ∃ pn, out'.set k (out'.getD k [] ++ [i]) = pn := ⟨_, rfl⟩
            rw [hpn] at hback HOUT
            have HOWN := Lib.hid hown
            have HBACK := Lib.hid hback
            have gk0 : (0 : Int) ≤ (k : Int) := by omega
            have gk1 : (k : Int) < (oN : Int) := by omega
            have gi0 : (0 : Int) ≤ (i : Int) := by omega
            have gi1 : (i : Int) < (n : Int) := by omega
            clear hown hback hnk hoN hkp hout' hwB hpn HPK HFR W53 hpl2 now0 now1 last0 last1 olen hcapm hoc2
            go_upto_region 18 with (fail)
            go_cut [95] (fun _ wx => RunW w M n ps (.slice (some ⟨Gn, 0, none⟩) oN capn) pn D i wx)
            case first =>
              go_wp2_with (at_builtin; refine wpList_append_own_at _ rfl _ _ 56 rfl (M + 1) 3 i3 (.int .i64 0) 1 8 Tryz.underlying56 hi3 hz3 ha3 hb3 rfl (by decide) _ nk _ rfl (HOWN.out.alloc _) ⟨wc.heap.size, 0, none⟩ 1 1 [.int .i64 (i : Nat)] rfl rfl (cell_one_new _ _ _) (by simp [Value.oneCell']) (by unfold maxLen; omega) (by omega) (by simp; omega) ?_; intro v' w' ho hg _ hl; obtain ⟨x0, x1, x2⟩ := HBACK.out _ _ _ ho hg hl; obtain ⟨va, vc, hva, _, _⟩ := own_slice ho; subst hva)
              go_meet
              exact x2
            case rest =>
            clear HOWN HBACK hcell hfr
            have WC := Lib.hid hcut
            obtain ⟨ob, hob⟩ : ∃ ob, opensB d = ob := ⟨_, rfl⟩
            have HOB : Hid (∀ W, Calls Tryz.prog 144 #[.int .i8 d] W fun e w' => e = .returned (.bool ob) ∧ W = w') := Lib.hid fun W => by rw [← hob]; exact lopens_any d W
            rw [hob] at HGOES
            obtain ⟨G1, hG1, _, _, hpc, _, _, _⟩ := OutAt.at WC.out.prs i (by rw [hpl]; exact hi)
            cases hG1
            have hpb := HPB.out i
            have HMP := Lib.hid REL.out.mp
            obtain ⟨px, hpx⟩ : ∃ px, ith ps i = px := ⟨_, rfl⟩
            rw [hpx] at hpc HGOES hpb
            clear hcut hob hpx
            cases ob with
            | false =>
              by_cases h10 : d = 10
              · subst h10
                go_wp2_with (go_at_call 144; refine (HOB.out _).mono ?_; rintro e w' ⟨rfl, hw'⟩; subst hw')
                go_roundw
                case rel => exact ⟨i + 1, q, s.step ds ls ps i, D, by rw [HNOW.out], by rw [HLAST.out]; rfl, by go_num, hnx.out D _ _ (by rw [HOUT.out]; exact ⟨WC.out.nest, WC.out.map.mono (by omega), WC.out.prs, WC.out.lt, WC.out.sz, WC.out.bel⟩) (by rw [HGOES.out, if_neg (by simp)]; exact HMP.out)⟩
                case measure => simp [intOf]; omega
              · have c10 : (d == 10) = false := by simpa using h10
                go_wp2_with (go_at_call 144; refine (HOB.out _).mono ?_; rintro e w' ⟨rfl, hw'⟩; subst hw')
                go_roundw
                case rel => exact ⟨i + 1, q, s.step ds ls ps i, D, by rw [HNOW.out], by rw [HLAST.out]; rw [if_neg h10], by go_num, hnx.out D _ _ (by rw [HOUT.out]; exact ⟨WC.out.nest, WC.out.map.mono (by omega), WC.out.prs, WC.out.lt, WC.out.sz, WC.out.bel⟩) (by rw [HGOES.out, if_neg (by simp)]; exact HMP.out)⟩
                case measure => simp [intOf]; omega
            | true =>
              by_cases h0 : 0 ≤ px
              · obtain ⟨pj, rfl⟩ : ∃ pj : Nat, px = pj := ⟨px.toNat, by omega⟩
                have HG2 : Hid ((s.step ds ls ps i).goes = (pj, k) :: s.goes) := Lib.hid (by rw [HGOES.out, if_pos ⟨rfl, h0⟩, Int.toNat_natCast])
                by_cases h10 : d = 10
                · subst h10
                  go_wp2_with (first | (go_at_call 144; refine (HOB.out _).mono ?_; rintro e w' ⟨rfl, hw'⟩; subst hw') | (at_mapUpdate; refine wpList_mapUpdate_own _ rfl _ _ _ 29 rfl 3 3 key_law Tryz.underlying29 _ M i D rfl WC.out.map (by unfold maxLen; omega) _ _ _ rfl rfl (keyOf_int_mk Tryz.underlying3 (WalkArith.wf_i64 (by omega))) _ [] (plainElem_int Tryz.underlying3 (WalkArith.wf_i64 (by omega))) ?_; intro w2 hown2 hg2))
                  go_roundw
                  case rel => exact ⟨i + 1, q, s.step ds ls ps i, _, by rw [HNOW.out], by rw [HLAST.out]; rfl, by go_num, hnx.out _ _ _ (by rw [HOUT.out]; exact WC.out.mapped hown2 hg2) (by rw [HG2.out]; exact HMP.out.put pj k)⟩
                  case measure => simp [intOf]; omega
                · have c10 : (d == 10) = false := by simpa using h10
                  go_wp2_with (first | (go_at_call 144; refine (HOB.out _).mono ?_; rintro e w' ⟨rfl, hw'⟩; subst hw') | (at_mapUpdate; refine wpList_mapUpdate_own _ rfl _ _ _ 29 rfl 3 3 key_law Tryz.underlying29 _ M i D rfl WC.out.map (by unfold maxLen; omega) _ _ _ rfl rfl (keyOf_int_mk Tryz.underlying3 (WalkArith.wf_i64 (by omega))) _ [] (plainElem_int Tryz.underlying3 (WalkArith.wf_i64 (by omega))) ?_; intro w2 hown2 hg2))
                  go_roundw
                  case rel => exact ⟨i + 1, q, s.step ds ls ps i, _, by rw [HNOW.out], by rw [HLAST.out]; rw [if_neg h10], by go_num, hnx.out _ _ _ (by rw [HOUT.out]; exact WC.out.mapped hown2 hg2) (by rw [HG2.out]; exact HMP.out.put pj k)⟩
                  case measure => simp [intOf]; omega
              · have HG2 : Hid ((s.step ds ls ps i).goes = s.goes) := Lib.hid (by rw [HGOES.out, if_neg (fun h => h0 h.2)])
                by_cases h10 : d = 10
                · subst h10
                  go_wp2_with (go_at_call 144; refine (HOB.out _).mono ?_; rintro e w' ⟨rfl, hw'⟩; subst hw')
                  go_roundw
                  case rel => exact ⟨i + 1, q, s.step ds ls ps i, D, by rw [HNOW.out], by rw [HLAST.out]; rfl, by go_num, hnx.out D _ _ (by rw [HOUT.out]; exact ⟨WC.out.nest, WC.out.map.mono (by omega), WC.out.prs, WC.out.lt, WC.out.sz, WC.out.bel⟩) (by rw [HG2.out]; exact HMP.out)⟩
                  case measure => simp [intOf]; omega
                · have c10 : (d == 10) = false := by simpa using h10
                  go_wp2_with (go_at_call 144; refine (HOB.out _).mono ?_; rintro e w' ⟨rfl, hw'⟩; subst hw')
                  go_roundw
                  case rel => exact ⟨i + 1, q, s.step ds ls ps i, D, by rw [HNOW.out], by rw [HLAST.out]; rw [if_neg h10], by go_num, hnx.out D _ _ (by rw [HOUT.out]; exact ⟨WC.out.nest, WC.out.map.mono (by omega), WC.out.prs, WC.out.lt, WC.out.sz, WC.out.bel⟩) (by rw [HG2.out]; exact HMP.out)⟩
                  case measure => simp [intOf]; omega
    · have hm0 : m = 0 := by omega
      subst hm0
      have REL := Lib.hid rel
      clear rel
      go_wp2_with (fail)
      go_ret
      have r := REL.out
      have he := r.eq
      rw [runsF] at he
      rw [HFIN.out, ← he]
      exact ⟨_, rfl, r.rw_.nest.base (by have := r.rw_.lt; omega), r.rw_.bel⟩
end
section
set_option linter.unusedVariables false
set_option linter.unusedSimpArgs false
open Go.RowKit

theorem nats_ints (l : List Nat) : nats l = (ints l).map (Value.int .i64) := by unfold nats ints; simp [Function.comp_def]
theorem ith_ints (l : List Nat) (i : Nat) : ith (ints l) i = ((l.getD i 0 : Nat) : Int) := by
  unfold ith ints
  rw [List.getD_eq_getElem?_getD, List.getElem?_map, List.getD_eq_getElem?_getD]
  cases l[i]? <;> rfl
theorem ints_len (l : List Nat) : (ints l).length = l.length := by unfold ints; simp
theorem own_out {w : World} {base e n cap : Nat} {a : Option Addr} {l : List Nat} (h : w.ownsRow base e 1 (.slice a n cap) n (nats l)) (hl : l.length = n) : OutAt .i64 e w base a cap (ints l) := by
  unfold OutAt
  rw [ints_len, hl, ← nats_ints]
  exact h
set_option maxRecDepth 100000 in
set_option maxHeartbeats 400000 in
theorem ClI_any (G o n c L : Nat) (l : List Nat) (w : World) (hl : l.length = L) (hd : Rd .i64 w (some ⟨G, o, none⟩) (ints l)) (hp : 0 < L) (hn : L ≤ 2097152) :
    Calls Tryz.prog 154 #[.slice (some ⟨G, o, none⟩) L c] w fun e w' => ∃ a c', e = .returned (.slice a L c') ∧ OutAt .i64 3 w' w.heap.size a c' (ints l) ∧ Below w.heap.size w w' := by
  obtain ⟨i3, hi3, hz3, ha3, hb3⟩ := info_parts (Tryz.info_int)
  have hcells : ∀ j u, (nats l)[j]? = some u → (w.alloc (.cells #[] 3)).cell? ((⟨G, o, none⟩ : Addr).add j) = some u := fun j u hj => by
    have hjl : j < l.length := by
      rcases Nat.lt_or_ge j l.length with h | h
      · exact h
      · rw [List.getElem?_eq_none (by rw [nats_len]; exact h)] at hj; cases hj
    obtain ⟨b, off, e, hb, hc⟩ := hd.at ((Below.refl w.heap.size w).alloc (Nat.le_refl _) (.cells #[] 3)) j (by rw [ints_len]; exact hjl)
    cases e
    rw [nats_get l j hjl] at hj
    cases hj
    rw [Addr.add_lit, hc, ith_ints]
  have HC := Lib.hid hcells
  have HL := Lib.hid hl
  have q22 : ∀ (w : World) (a : Option Addr) (n c n' c' : Nat), (binOp .eql 56 (.slice a n c) (.slice none n' c')).run Tryz.prog w = .ok (.bool a.isNone) w := fun w a n c n' c' => Lib.run_eql_slice_nil w _ _ a n c n' c' Tryz.underlying56
  clear hcells hl hd
  go_enter Tryz.func154, Tryz.ntmps154
  go_wp2_with (at_builtin; refine wpList_append_own _ rfl _ _ 56 rfl w.heap.size 3 i3 (.int .i64 0) 1 8 Tryz.underlying56 hi3 hz3 ha3 hb3 rfl (by decide) _ _ _ rfl (World.ownsRow_made w #[] 0 (Nat.le_refl _) (Nat.zero_le _) (by simp)) ⟨G, o, none⟩ L c (nats l) rfl (by rw [nats_len, HL.out]; omega) HC.out (fun u hu => by unfold nats at hu; rw [List.mem_map] at hu; obtain ⟨x, _, rfl⟩ := hu; rfl) (by unfold maxLen; omega) (by omega) (by simp) ?_; intro v' w' ho hg _)
  obtain ⟨va, vc, hva, _, _⟩ := own_slice ho
  subst hva
  go_ret
  rw [Nat.zero_add, List.nil_append] at ho
  refine ⟨va, vc, by rw [Nat.zero_add]; rfl, own_out ho HL.out, ((Below.refl w.heap.size w).alloc (Nat.le_refl _) _).grown hg (by simp) (fun k hk => by cases hk; exact Nat.le_refl _)⟩
theorem SidesF_any (x : Int) (B : Nat) (n : Nat) (W : World) (hc : W.cell? ⟨B, 0, none⟩ = some (.int .i64 n)) :
    Calls Tryz.prog 155 #[.int .i64 x, .pointer (some ⟨B, 0, none⟩)] W fun e w' => e = .returned (.bool (decide (x < 0) || decide ((n : Int) ≤ x))) ∧ w' = W := by
  go_enter Tryz.func155, Tryz.ntmps155
  by_cases h0 : x < 0
  · go_wp2_with (fail)
    go_ret
    exact ⟨ret_b (by simp [h0]), rfl⟩
  · go_wp2_with (fail)
    go_ret
    exact ⟨ret_b (by rw [decide_eq_false (show ¬ x < 0 by omega)]; rfl), rfl⟩
set_option maxRecDepth 100000 in
set_option maxHeartbeats 400000 in
theorem IxF_any (a : Option Addr) (l : List Nat) (L c B n : Nat) (w : World) (hl : l.length = L) (hd : Rd .i64 w a (ints l)) (hc : w.cell? ⟨B, 0, none⟩ = some (.int .i64 n)) (hn : L ≤ 2097152) (hall : ∀ p ∈ l, p < n) :
    Calls Tryz.prog 181 #[.slice a L c, .func (.func 155) #[] #[.pointer (some ⟨B, 0, none⟩)]] w fun e w' => e = .returned (.int .i64 (-1)) ∧ w' = w := by
  have HL := Lib.hid hl
  have HA := Lib.hid hall
  have HC := Lib.hid hc
  clear hl hall hc
  go_enter Tryz.func181, Tryz.ntmps181
  go_wp2_with (fail)
  go_loopw [8] (fun u wx => ∃ i : Nat, i ≤ L ∧ u = .int .i64 i ∧ wx = w) (fun u _ => L - (intOf u).toNat)
  case atStart => exact ⟨0, by omega, rfl, rfl⟩
  case round =>
    obtain ⟨i, hi, rfl, hwx⟩ := hrel
    have hwx' := hwx.symm
    clear hwx
    subst hwx'
    by_cases hlt : i < L
    · obtain ⟨G, o, rfl, hG, hcell⟩ := hd.at (Below.refl _ _) i (by rw [ints_len, HL.out]; exact hlt)
      rw [ith_ints] at hcell
      obtain ⟨x, hx⟩ : ∃ x, l.getD i 0 = x := ⟨_, rfl⟩
      have hxn : x < n := HA.out x (by rw [← hx, List.getD_eq_getElem?_getD, List.getElem?_eq_getElem (by have := HL.out; omega)]; exact List.getElem_mem _)
      rw [hx] at hcell
      have HS : Hid (Calls Tryz.prog 155 #[.int .i64 x, .pointer (some ⟨B, 0, none⟩)] w fun e w' => e = .returned (.bool false) ∧ w' = w) := Lib.hid ((SidesF_any x B n w HC.out).mono fun e w' h => ⟨h.1.trans (ret_b (by rw [decide_eq_false (by omega), decide_eq_false (by omega)]; rfl)), h.2⟩)
      clear hx
      go_wp2_with (go_at_call 155; refine HS.out.mono ?_; rintro e w' ⟨rfl, hw'⟩; have hw2 := hw'.symm; clear hw'; subst hw2)
      go_roundw
      case rel => exact ⟨i + 1, by omega, by go_num, trivial⟩
      case measure => simp [intOf]; omega
    · have hie : i = L := by omega
      clear hi
      go_wp2_with (fail)
      go_ret
      exact ⟨rfl, rfl⟩
theorem DelF_any (a : Option Addr) (l : List Nat) (L c B n : Nat) (w : World) (hl : l.length = L) (hd : Rd .i64 w a (ints l)) (hc : w.cell? ⟨B, 0, none⟩ = some (.int .i64 n)) (hn : L ≤ 2097152) (hall : ∀ p ∈ l, p < n) :
    Calls Tryz.prog 153 #[.slice a L c, .func (.func 155) #[] #[.pointer (some ⟨B, 0, none⟩)]] w fun e w' => e = .returned (.slice a L c) ∧ w' = w := by
  have HI := Lib.hid (IxF_any a l L c B n w hl hd hc hn hall)
  clear hl hd hc hall
  go_enter Tryz.func153, Tryz.ntmps153
  go_wp2_with (go_at_call 181; refine HI.out.mono ?_; rintro e w' ⟨rfl, hw'⟩; have hw2 := hw'.symm; clear hw'; subst hw2)
  go_ret
  exact ⟨rfl, rfl⟩
end
section
set_option linter.unusedVariables false
set_option linter.unusedSimpArgs false
open Go.RowKit

theorem getD_le {ls : List Nat} (h : ∀ l ∈ ls, l ≤ 125) (i : Nat) : ls.getD i 0 ≤ 125 := by
  rw [List.getD_eq_getElem?_getD]
  cases hx : ls[i]? with
  | none => simp
  | some x => exact h x (List.mem_of_getElem? hx)
theorem aheadL_le (ds : List Int) (ls : List Nat) (base : Nat) (hb : base ≤ 125) (h : ∀ l ∈ ls, l ≤ 125) : ∀ i, aheadL ds ls base i ≤ 125
  | 0 => hb
  | i + 1 => by
    rw [aheadL]
    split
    · exact hb
    · split
      · exact aheadL_le ds ls base hb h i
      · exact getD_le h i
theorem behindL_le (ds : List Int) (ls : List Nat) (base : Nat) (hb : base ≤ 125) (h : ∀ l ∈ ls, l ≤ 125) : ∀ m i, behindL ds ls base m i ≤ 125
  | 0, _ => hb
  | m + 1, i => by
    rw [behindL]
    split
    · exact behindL_le ds ls base hb h m (i + 1)
    · exact getD_le h i
theorem bits_one (v : Nat) (h : v ≤ 125) : bits .and .u8 (v : Int) 1 = ((v % 2 : Nat) : Int) := by
  have : ∀ k : Fin 126, bits .and .u8 ((k : Nat) : Int) 1 = (((k : Nat) % 2 : Nat) : Int) := by decide
  exact this ⟨v, by omega⟩
def behindG (ds : List Int) (ls : List Nat) (base b n : Nat) : Nat :=
  if (opensB (lkn (ith ds b)) = false ∨ 0 ≤ ith (pairsI ds) b) ∧ lkn (ith ds b) ≠ 10 then behindL ds ls base (n - (b + 1)) (b + 1) else base
theorem sidesI_at (ds : List Int) (ls run : List Nat) (base n : Nat) (hl : ds.length = n) (hll : ls.length = n) (hp : run ≠ []) (hall : ∀ p ∈ run, p < n) :
    sidesI ds ls base run = (((max (ls.getD (run.getD 0 0) 0) (aheadL ds ls base (run.getD 0 0)) % 2 : Nat) : Int), ((max (ls.getD (run.getLastD 0) 0) (behindG ds ls base (run.getLastD 0) n) % 2 : Nat) : Int)) := by
  unfold sidesI behindG
  have e : min ds.length ls.length = n := by omega
  have e2 : ds.take n = ds := by rw [← hl]; exact List.take_length
  have e3 : run.filter (fun p => decide (p < n)) = run := List.filter_eq_self.2 fun p hp => by simpa using hall p hp
  simp only [e, e2, e3, if_neg hp]
set_option maxRecDepth 100000 in
set_option maxHeartbeats 1000000 in
theorem LSides_any (a la ra : Option Addr) (ds : List Int) (ls run : List Nat) (n cap lc rc L base : Nat) (w : World) (hl : ds.length = n) (hll : ls.length = n) (hrl : run.length = L)
    (hd : Rd .i8 w a ds) (hls : Rd .u8 w la (ints ls)) (hr : Rd .i64 w ra (ints run)) (hp : 0 < L) (hn : n ≤ 2097152) (hLn : L ≤ 2097152) (hnc : n ≤ cap) (hcm : cap ≤ 9223372036854775807)
    (hall : ∀ p ∈ run, p < n) (hb : base ≤ 125) (hlv : ∀ l ∈ ls, l ≤ 125) :
    Calls Tryz.prog 129 #[.slice a n cap, .slice la n lc, .int .u8 base, .slice ra L rc] w fun e w' =>
      e = .returned (.tuple #[.int .i8 (sidesI ds ls base run).1, .int .i8 (sidesI ds ls base run).2]) ∧ Below w.heap.size w w' := by
  have hrne : run ≠ [] := by intro e; rw [e] at hrl; simp at hrl; omega
  rw [sidesI_at ds ls run base n hl hll hrne hall]
  obtain ⟨Lm, hLm⟩ : ∃ Lm, L = Lm + 1 := ⟨L - 1, by omega⟩
  obtain ⟨a0, ha0⟩ : ∃ a0, run.getD 0 0 = a0 := ⟨_, rfl⟩
  obtain ⟨b0, hb0⟩ : ∃ b0, run.getLastD 0 = b0 := ⟨_, rfl⟩
  have hb0' : run.getD Lm 0 = b0 := by
    rw [← hb0, List.getLastD_eq_getLast?, List.getLast?_eq_getElem?, hrl, hLm, Nat.add_sub_cancel, List.getD_eq_getElem?_getD]
  have ha0n : a0 < n := hall a0 (by rw [← ha0, List.getD_eq_getElem?_getD, List.getElem?_eq_getElem (by omega)]; exact List.getElem_mem _)
  have hb0n : b0 < n := hall b0 (by rw [← hb0', List.getD_eq_getElem?_getD, List.getElem?_eq_getElem (by omega)]; exact List.getElem_mem _)
  rw [ha0, hb0]
  obtain ⟨A, hA⟩ : ∃ A, aheadL ds ls base a0 = A := ⟨_, rfl⟩
  obtain ⟨Bh, hBh⟩ : ∃ Bh, behindG ds ls base b0 n = Bh := ⟨_, rfl⟩
  have hA5 : A ≤ 125 := by rw [← hA]; exact aheadL_le ds ls base hb hlv a0
  have hB5 : Bh ≤ 125 := by
    rw [← hBh]; unfold behindG
    split
    · exact behindL_le ds ls base hb hlv _ _
    · exact hb
  have hx5 := getD_le hlv a0
  have hy5 := getD_le hlv b0
  rw [hA, hBh]
  obtain ⟨xa, hxa'⟩ : ∃ xa, ls.getD a0 0 = xa := ⟨_, rfl⟩
  obtain ⟨xb, hxb'⟩ : ∃ xb, ls.getD b0 0 = xb := ⟨_, rfl⟩
  rw [hxa'] at hx5 ⊢
  rw [hxb'] at hy5 ⊢
  obtain ⟨m1, hm1⟩ : ∃ m1, max xa A = m1 := ⟨_, rfl⟩
  obtain ⟨m2, hm2⟩ : ∃ m2, max xb Bh = m2 := ⟨_, rfl⟩
  rw [hm1, hm2]
  have hmx1 : max (xa : Int) (A : Int) = (m1 : Int) := by omega
  have hmx2 : max (xb : Int) (Bh : Int) = (m2 : Int) := by omega
  have hb1 := bits_one m1 (by omega)
  have hb2 := bits_one m2 (by omega)
  have hh1 : ((m1 % 2 : Nat) : Int) ≤ 1 := by omega
  have hh2 : ((m2 % 2 : Nat) : Int) ≤ 1 := by omega
  have hh3 : 0 ≤ ((m1 % 2 : Nat) : Int) := by omega
  have hh4 : 0 ≤ ((m2 % 2 : Nat) : Int) := by omega
  generalize ((m1 % 2 : Nat) : Int) = q1 at hb1 hh1 hh3 ⊢
  generalize ((m2 % 2 : Nat) : Int) = q2 at hb2 hh2 hh4 ⊢
  have HXA := Lib.hid hxa'
  have HXB := Lib.hid hxb'
  have HM1 := Lib.hid hmx1
  have HM2 := Lib.hid hmx2
  have HQ1 := Lib.hid hb1
  have HQ2 := Lib.hid hb2
  clear hxa' hxb' hm1 hm2 hmx1 hmx2 hb1 hb2
  obtain ⟨B, o, hra, hBl, hr0⟩ := hr.at (Below.refl _ _) 0 (by rw [ints_len]; omega)
  subst hra
  obtain ⟨W0, hW0⟩ : ∃ W0, W0 = w.alloc (.cells #[.int .i64 n] 3) := ⟨_, rfl⟩
  have hb00 : Below w.heap.size w W0 := by rw [hW0]; exact (Below.refl _ _).alloc (Nat.le_refl _) _
  have hz0 : W0.heap.size = w.heap.size + 1 := by rw [hW0, World.size_alloc]
  have hcB : W0.cell? ⟨w.heap.size, 0, none⟩ = some (.int .i64 n) := by rw [hW0]; simp
  have hCL := ClI_any B o L rc L run W0 hrl (hr.below hb00) hp hLn
  have HL := Lib.hid hl
  have HLL := Lib.hid hll
  have HRL := Lib.hid hrl
  have HALL := Lib.hid hall
  have HA := Lib.hid hA
  have HBH := Lib.hid hBh
  have HW0 := Lib.hid hW0
  have HA0 := Lib.hid ha0
  have HB0 := Lib.hid hb0'
  have HLM := Lib.hid hLm
  have HCL := Lib.hid hCL
  have HCB := Lib.hid hcB
  have hL0 : ((L : Int) == 0) = false := by simp; omega
  clear hl hll hrl hall hA hBh hW0 ha0 hb0 hb0' hLm hCL hcB hrne hr0
  go_enter Tryz.func129, Tryz.ntmps129
  go_upto_region 2 with (fail)
  rw [← HW0.out]
  go_upto_region 5 with (first | (go_at_call 154; refine HCL.out.mono ?_; rintro e w1 ⟨a1, c1, rfl, hO1, hb1⟩) | (go_at_call 153; refine (DelF_any a1 run L c1 w.heap.size n w1 HRL.out hO1.rd ((hb1.cell (p := ⟨w.heap.size, 0, none⟩) (by show w.heap.size < W0.heap.size; omega)).trans HCB.out) hLn HALL.out).mono ?_; rintro e w' ⟨rfl, hw'⟩; have hw2 := hw'.symm; clear hw'; subst hw2))
  have hcB1 : w1.cell? ⟨w.heap.size, 0, none⟩ = some (.int .i64 n) := (hb1.cell (p := ⟨w.heap.size, 0, none⟩) (by show w.heap.size < W0.heap.size; omega)).trans HCB.out
  obtain ⟨G1, hG1, _, hG1l, x0, _, hcc1, hcc2⟩ := hO1.at 0 (by rw [ints_len, HRL.out]; exact hp)
  subst hG1
  obtain ⟨G1', hG1', _, _, x1, _, _, _⟩ := hO1.at Lm (by rw [ints_len, HRL.out]; have := HLM.out; omega)
  cases hG1'
  rw [ith_ints, HA0.out] at x0
  rw [ith_ints, HB0.out] at x1
  rw [ints_len, HRL.out] at hcc1
  have hwr : IntKind.i64.wrap ((L : Int) - 1) = (Lm : Int) := by have := HLM.out; rw [IntKind.wrap_i64]; omega
  have gL0 : (0 : Int) ≤ (Lm : Int) := by omega
  have gL1 : (Lm : Int) < (L : Int) := by have := HLM.out; omega
  have gL2 : (0 : Int) < (L : Int) := by omega
  have hbC1 : Below w.heap.size w w1 := hb00.trans (hb1.mono (by omega))
  have hsz1 : w.heap.size < w1.heap.size := by have := hb1.size; omega
  have HB1 := Lib.hid hbC1
  clear hbC1 hb00 hb1 hz0
  go_cut [12, 13] (fun v12 v13 wx => v12 = .int .i64 (a0 : Nat) ∧ v13 = .int .i64 (b0 : Nat) ∧ Below w1.heap.size w1 wx)
  case first =>
    clear hcB1
    go_quiet (fail)
    go_wp2_with (fail)
    go_meet
    exact ⟨rfl, rfl, bl_drewN (Below.refl _ _) _⟩
  case rest =>
  obtain ⟨rfl, rfl, hbw⟩ := hcut
  obtain ⟨V, hV⟩ : ∃ V, V = wc := ⟨_, rfl⟩
  subst hV
  have HBC : Hid (Below w.heap.size w V) := Lib.hid (HB1.out.trans (hbw.mono (by omega)))
  have hcC : V.cell? ⟨w.heap.size, 0, none⟩ = some (.int .i64 n) := (hbw.cell (p := ⟨w.heap.size, 0, none⟩) hsz1).trans hcB1
  have hszC : w.heap.size < V.heap.size := by have := hbw.size; omega
  clear hbw hcB1 x0 x1 hwr hsz1 hO1 gL0 gL1 gL2
  go_upto_block 0 with (fail)
  go_cut [14] (fun v wx => v = .int .u8 (A : Nat) ∧ wx = V)
  case first =>
    go_wp2_with (fail)
    go_loopw [14, 16] (fun u14 u16 wx => ∃ (k : Nat) (z : Int), u14 = .int .u8 (base : Nat) ∧ u16 = .int .i64 z ∧ z + 1 = k ∧ k ≤ a0 ∧ aheadL ds ls base k = A ∧ wx = V) (fun _ c _ => (intOf c + 1).toNat)
    case atStart => exact ⟨a0, (a0 : Int) - 1, rfl, by go_num, by omega, Nat.le_refl _, HA.out, rfl⟩
    case round =>
      obtain ⟨k, z, rfl, rfl, hzk, hka, hF, hwx⟩ := hrel
      have hwx' := hwx.symm
      clear hwx
      subst hwx'
      cases k with
      | zero =>
        have hz : z = -1 := by omega
        subst hz
        rw [aheadL] at hF
        clear hzk
        go_wp2_with (fail)
        go_meet
        exact ⟨by rw [hF], rfl⟩
      | succ k =>
        have hz : z = (k : Int) := by omega
        subst hz
        rw [aheadL] at hF
        clear hzk
        obtain ⟨G, o, hGa, hGl, hGc⟩ := hd.at HBC.out k (by have := HL.out; omega)
        subst hGa
        obtain ⟨G2, o2, hGb, hGl2, hGc2⟩ := hls.at HBC.out k (by have := HLL.out; rw [ints_len]; omega)
        subst hGb
        rw [ith_ints] at hGc2
        obtain ⟨y, hy⟩ : ∃ y, ith ds k = y := ⟨_, rfl⟩
        rw [hy] at hGc hF
        obtain ⟨d, hd'⟩ : ∃ d, lkn y = d := ⟨_, rfl⟩
        have HD : Hid (∀ W, Calls Tryz.prog 124 #[.int .i8 y] W fun e w' => e = .returned (.int .i8 d) ∧ W = w') := Lib.hid fun W => by rw [← hd']; exact lknown_any y W
        obtain ⟨lb, hlb⟩ : ∃ lb, leftB d = lb := ⟨_, rfl⟩
        have HLB : Hid (∀ W, Calls Tryz.prog 152 #[.int .i8 d] W fun e w' => e = .returned (.bool lb) ∧ W = w') := Lib.hid fun W => by rw [← hlb]; exact lleft_any d W
        rw [hd'] at hF
        rw [hlb] at hF
        obtain ⟨lv, hlv'⟩ : ∃ lv, ls.getD k 0 = lv := ⟨_, rfl⟩
        rw [hlv'] at hGc2 hF
        have HF := Lib.hid hF
        clear hy hd' hlb hlv' hF
        have gk0 : (0 : Int) ≤ (k : Int) := by omega
        have gk1 : (k : Int) < (n : Int) := by omega
        by_cases h10 : d = 10
        · subst h10
          have e := HF.out
          rw [if_pos rfl] at e
          have HE := Lib.hid e
          clear e
          go_wp2_with (go_at_call 124; refine (HD.out _).mono ?_; rintro e w' ⟨rfl, hw'⟩; subst hw')
          go_meet
          exact ⟨by rw [HE.out], rfl⟩
        · have c10 : (d == 10) = false := by simpa using h10
          have c10' : (d != 10) = true := by simpa using h10
          have e := HF.out
          rw [if_neg h10] at e
          have HE := Lib.hid e
          clear e h10
          cases lb with
          | true =>
            go_wp2_with (first | (go_at_call 124; refine (HD.out _).mono ?_; rintro e w' ⟨rfl, hw'⟩; subst hw') | (go_at_call 152; refine (HLB.out _).mono ?_; rintro e w' ⟨rfl, hw'⟩; subst hw'))
            go_roundw
            case rel => exact ⟨k, (k : Int) - 1, rfl, by go_num, by omega, by omega, by have := HE.out; rwa [if_pos trivial] at this, trivial⟩
            case measure => simp [intOf]
          | false =>
            go_wp2_with (first | (go_at_call 124; refine (HD.out _).mono ?_; rintro e w' ⟨rfl, hw'⟩; subst hw') | (go_at_call 152; refine (HLB.out _).mono ?_; rintro e w' ⟨rfl, hw'⟩; subst hw'))
            go_meet
            exact ⟨by have := HE.out; rw [if_neg (by decide)] at this; rw [this], rfl⟩
  case rest =>
  obtain ⟨rfl, hwx⟩ := hcut
  have hwx' := hwx.symm
  clear hwx
  subst hwx'
  obtain ⟨G, o, hGa, hGl, hGcb⟩ := hd.at HBC.out b0 (by have := HL.out; omega)
  subst hGa
  obtain ⟨yb, hyb⟩ : ∃ yb, ith ds b0 = yb := ⟨_, rfl⟩
  rw [hyb] at hGcb
  obtain ⟨db, hdb⟩ : ∃ db, lkn yb = db := ⟨_, rfl⟩
  have HDB : Hid (∀ W, Calls Tryz.prog 124 #[.int .i8 yb] W fun e w' => e = .returned (.int .i8 db) ∧ W = w') := Lib.hid fun W => by rw [← hdb]; exact lknown_any yb W
  obtain ⟨ob, hob⟩ : ∃ ob, opensB db = ob := ⟨_, rfl⟩
  have HOB : Hid (∀ W, Calls Tryz.prog 144 #[.int .i8 db] W fun e w' => e = .returned (.bool ob) ∧ W = w') := Lib.hid fun W => by rw [← hob]; exact lopens_any db W
  have HPA := Lib.hid (LPairs_any (some ⟨G, o, none⟩) ds n cap V HL.out (hd.below HBC.out) hn)
  unfold LPairsPost at HPA
  obtain ⟨pb, hpb⟩ : ∃ pb, ith (pairsI ds) b0 = pb := ⟨_, rfl⟩
  obtain ⟨go, hgo⟩ : ∃ go, (!ob || decide (0 ≤ pb)) = go := ⟨_, rfl⟩
  have hBH := HBH.out
  unfold behindG at hBH
  rw [hyb, hdb, hob, hpb] at hBH
  have HBH2 : Hid ((if go = true ∧ db ≠ 10 then behindL ds ls base (n - (b0 + 1)) (b0 + 1) else base) = Bh) := Lib.hid (by
    rw [← hBH, ← hgo]
    have e : ((!ob || decide (0 ≤ pb)) = true ∧ db ≠ 10) ↔ ((ob = false ∨ 0 ≤ pb) ∧ db ≠ 10) := by simp
    by_cases h : (ob = false ∨ 0 ≤ pb) ∧ db ≠ 10
    · rw [if_pos h, if_pos (e.2 h)]
    · rw [if_neg h, if_neg (fun h' => h (e.1 h'))])
  have HGO := Lib.hid hgo
  have gb0 : (0 : Int) ≤ (b0 : Int) := by omega
  have gb1 : (b0 : Int) < (n : Int) := by omega
  have gn0 : (n : Int) ≤ (cap : Int) := by omega
  clear hyb hdb hob hBH hgo
  go_upto_region 12 with (fail)
  go_cut [88] (fun t wx => t = .bool go ∧ Below V.heap.size V wx)
  case first =>
    cases ob with
    | false =>
      go_wp2_with (first | (go_at_call 124; refine (HDB.out _).mono ?_; rintro e w' ⟨rfl, hw'⟩; subst hw') | (go_at_call 144; refine (HOB.out _).mono ?_; rintro e w' ⟨rfl, hw'⟩; subst hw'))
      go_meet
      exact ⟨by rw [← HGO.out]; rfl, Below.refl _ _⟩
    | true =>
      go_wp2_with (first | (go_at_call 124; refine (HDB.out _).mono ?_; rintro e w' ⟨rfl, hw'⟩; subst hw') | (go_at_call 144; refine (HOB.out _).mono ?_; rintro e w' ⟨rfl, hw'⟩; subst hw') | (go_at_call 151; refine HPA.out.mono ?_; rintro e w3 ⟨rfl, hpl, hO3, hb3⟩; obtain ⟨_, hG3, _, _, hx3, _⟩ := OutAt.at hO3 b0 (by rw [hpl]; omega); cases hG3; rw [hpb] at hx3; clear hpl hO3))
      go_meet
      exact ⟨by rw [← HGO.out]; rfl, hb3⟩
  case rest =>
  obtain ⟨rfl, hbw⟩ := hcut
  obtain ⟨U, hU⟩ : ∃ U, U = wc := ⟨_, rfl⟩
  subst hU
  have HBU : Hid (Below w.heap.size w U) := Lib.hid (HBC.out.trans (hbw.mono (by omega)))
  have hcU : U.cell? ⟨w.heap.size, 0, none⟩ = some (.int .i64 n) := (hbw.cell (p := ⟨w.heap.size, 0, none⟩) hszC).trans hcC
  have hGcU : U.cell? ⟨G, o + b0, none⟩ = some (.int .i8 yb) := (hbw.cell (p := ⟨G, o + b0, none⟩) (by show G < V.heap.size; omega)).trans hGcb
  clear hbw hcC hGcb HPA HOB hpb HBC
  go_upto_if 88 with (fail)
  go_cut [15] (fun v wx => v = .int .u8 (Bh : Nat) ∧ wx = U)
  case first =>
    cases go with
    | false =>
      have e := HBH2.out
      rw [if_neg (fun h => by simp at h)] at e
      have HE := Lib.hid e
      clear e
      go_wp2_with (fail)
      go_meet
      exact ⟨by rw [HE.out], rfl⟩
    | true =>
      have HE : Hid ((if db = 10 then base else behindL ds ls base (n - (b0 + 1)) (b0 + 1)) = Bh) := Lib.hid (by
        rw [← HBH2.out]
        by_cases h : db = 10
        · rw [if_pos h, if_neg (fun h' => h'.2 h)]
        · rw [if_neg h, if_pos ⟨rfl, h⟩])
      go_upto_block 2 with (fail)
      go_wp2_with (fail)
      go_loopw [15, 17] (fun u15 u17 wx => ∃ j m : Nat, u15 = .int .u8 (base : Nat) ∧ u17 = .int .i64 (j : Nat) ∧ j + m = n ∧ (if db = 10 then base else behindL ds ls base m j) = Bh ∧ wx = U) (fun _ c _ => n - (intOf c).toNat)
      case atStart => exact ⟨b0 + 1, n - (b0 + 1), rfl, by go_num, by omega, HE.out, rfl⟩
      case round =>
        obtain ⟨j, m, rfl, rfl, hjm, hF0, hwx⟩ := hrel
        have hwx' := hwx.symm
        clear hwx
        subst hwx'
        cases m with
        | zero =>
          have hjn : j = n := by omega
          rw [behindL] at hF0
          have HF := Lib.hid hF0
          subst hjn
          clear hF0 hjm
          go_wp2_with (go_at_call 124; refine (HDB.out _).mono ?_; rintro e w' ⟨rfl, hw'⟩; subst hw')
          go_meet
          exact ⟨by have := HF.out; rw [ite_self] at this; rw [this], rfl⟩
        | succ m =>
          have hjn : j < n := by omega
          by_cases h10 : db = 10
          · subst h10
            rw [if_pos rfl] at hF0
            have HF := Lib.hid hF0
            clear hF0
            go_wp2_with (go_at_call 124; refine (HDB.out _).mono ?_; rintro e w' ⟨rfl, hw'⟩; subst hw')
            go_meet
            exact ⟨by rw [HF.out], rfl⟩
          · have c10 : (db == 10) = false := by simpa using h10
            have c10' : (db != 10) = true := by simpa using h10
            rw [if_neg h10] at hF0
            have hF := hF0
            rw [behindL] at hF
            clear hF0
            obtain ⟨G4, o4, hGa, hGl4, hGc⟩ := hd.at HBU.out j (by have := HL.out; omega)
            cases hGa
            obtain ⟨G2, o2, hGb, hGl2, hGc2⟩ := hls.at HBU.out j (by have := HLL.out; rw [ints_len]; omega)
            subst hGb
            rw [ith_ints] at hGc2
            obtain ⟨y, hy⟩ : ∃ y, ith ds j = y := ⟨_, rfl⟩
            rw [hy] at hGc hF
            obtain ⟨d, hd'⟩ : ∃ d, lkn y = d := ⟨_, rfl⟩
            have HD : Hid (∀ W, Calls Tryz.prog 124 #[.int .i8 y] W fun e w' => e = .returned (.int .i8 d) ∧ W = w') := Lib.hid fun W => by rw [← hd']; exact lknown_any y W
            obtain ⟨lb, hlb⟩ : ∃ lb, leftB d = lb := ⟨_, rfl⟩
            have HLB : Hid (∀ W, Calls Tryz.prog 152 #[.int .i8 d] W fun e w' => e = .returned (.bool lb) ∧ W = w') := Lib.hid fun W => by rw [← hlb]; exact lleft_any d W
            rw [hd'] at hF
            rw [hlb] at hF
            obtain ⟨lv, hlv'⟩ : ∃ lv, ls.getD j 0 = lv := ⟨_, rfl⟩
            rw [hlv'] at hGc2 hF
            have HF := Lib.hid hF
            clear hy hd' hlb hlv' hF
            have gk0 : (0 : Int) ≤ (j : Int) := by omega
            have gk1 : (j : Int) < (n : Int) := by omega
            go_upto_block 3 with (go_at_call 124; refine (HDB.out _).mono ?_; rintro e w' ⟨rfl, hw'⟩; subst hw')
            cases lb with
            | true =>
              go_wp2_with (first | (go_at_call 124; refine (HD.out _).mono ?_; rintro e w' ⟨rfl, hw'⟩; subst hw') | (go_at_call 152; refine (HLB.out _).mono ?_; rintro e w' ⟨rfl, hw'⟩; subst hw'))
              go_roundw
              case rel => exact ⟨j + 1, m, rfl, by go_num, by omega, by rw [if_neg h10]; have := HF.out; rwa [if_pos trivial] at this, trivial⟩
              case measure => simp [intOf]; omega
            | false =>
              go_wp2_with (first | (go_at_call 124; refine (HD.out _).mono ?_; rintro e w' ⟨rfl, hw'⟩; subst hw') | (go_at_call 152; refine (HLB.out _).mono ?_; rintro e w' ⟨rfl, hw'⟩; subst hw'))
              go_meet
              exact ⟨by have := HF.out; rw [if_neg (by decide)] at this; rw [this], rfl⟩
  case rest =>
  obtain ⟨rfl, hwx⟩ := hcut
  have hwx' := hwx.symm
  clear hwx
  subst hwx'
  go_upto_region 18 with (fail)
  obtain ⟨G2, o2, hGb, hGl2, hxa⟩ := hls.at HBU.out a0 (by have := HLL.out; rw [ints_len]; omega)
  subst hGb
  obtain ⟨G3, o3, hGb, hGl3, hxb⟩ := hls.at HBU.out b0 (by have := HLL.out; rw [ints_len]; omega)
  cases hGb
  rw [ith_ints] at hxa hxb
  rw [HXA.out] at hxa
  rw [HXB.out] at hxb
  have hmx1 := HM1.out
  have hmx2 := HM2.out
  have hb1 := HQ1.out
  have hb2 := HQ2.out
  have ga0 : (0 : Int) ≤ (a0 : Int) := by omega
  have ga1 : (a0 : Int) < (n : Int) := by omega
  clear hcU hGcU
  go_quiet (fail)
  go_wp2_with (fail)
  go_ret2
  exact ⟨rfl, bl_drewN HBU.out _⟩
end
end Go.Proofs.YtlbclfmbejjneaaGreatDoor
