/- Small functions of layers 2 and 9 that only compute: way, side, class.Pair: contracts. No conditions but that a character is of 32 bits. -/
import Derived.Test.YtbhhebheclfdlaaProg
import Derived.Test.YtbhhebheclfdlaaSpec09
import Derived.BigQuiet
namespace Go.Proofs.Ytbhhebheclfdlaa
set_option linter.unusedVariables false
set_option linter.unusedSimpArgs false
open Go.RowKit

set_option maxHeartbeats 400000 in
theorem way_any (k : Int) (w : World) :
    Calls Try.prog 72 #[.int .i8 k] w fun e w' => e = .returned (.int .i8 (wayI k)) ∧ w = w' := by
  go_enter Try.func72, Try.ntmps72
  go_wp2
  all_goals (go_ret; simp_all [wayI])

set_option maxHeartbeats 400000 in
theorem side_any (k : Int) (w : World) :
    Calls Try.prog 70 #[.int .i8 k] w fun e w' => e = .returned (.int .i8 (sideI k)) ∧ w = w' := by
  go_enter Try.func70, Try.ntmps70
  go_wp2
  all_goals (go_ret; simp_all [sideI])

theorem run_index_int {P : Program} (w : World) {t e n : Nat} {k : IntKind} (cs : Array Value) (i : Nat) (v : Value) (hu : P.underlying t = some (.array n e)) (he : P.underlying e = some (.int k)) (hs : (P.info? e).map (·.size) = some 1)
    (hi : i < n) (hv : cs[i]? = some v) : (Instr.index t (.agg cs) (.int .i64 i)).run P w = .ok v w := by
  cases hq : P.info? e with
  | none => simp [hq] at hs
  | some ie =>
    have h1 : ie.size = 1 := by simpa [hq] using hs
    simp [Instr.index, asIntOf, run_underlying hu, sizeOf, typeInfo, hq, hi, h1, part, isAgg, run_underlying he, hv]

theorem beq_even (k : Nat) : ((k : Int) % 2 == 0) = decide (k % 2 = 0) := by
  rw [Bool.eq_iff_iff, beq_iff_eq, decide_eq_true_iff]; omega

def PairPost (r : Int) (w : World) (e : Ending) (w' : World) : Prop :=
  e = .returned (.tuple #[.int .i32 (pairI r).1, .bool (pairI r).2.1, .bool (pairI r).2.2]) ∧ w = w'

set_option maxHeartbeats 1000000 in
theorem Pair_any (r : Int) (w : World) : Calls Try.prog 42 #[.int .i32 r] w (PairPost r w) := by
  go_enter Try.func42, Try.ntmps42
  go_wp2
  go_loop [9] (fun i => ∃ k : Nat, k ≤ 30 ∧ i = .int .i64 k ∧ ∀ j, j < k → ith brL j ≠ r) (fun i => 30 - (intOf i).toNat)
  case atStart => exact ⟨0, by omega, rfl, fun j hj => absurd hj (by omega)⟩
  case round =>
    obtain ⟨k, hk, rfl, hmiss⟩ := hrel
    have HM := Lib.hid hmiss
    clear hmiss
    by_cases hlt : k < 30
    · have hix : ∀ w : World, (Instr.index 85 (.agg (brL.map (Value.int .i32)).toArray) (.int .i64 k)).run Try.prog w = .ok (.int .i32 (ith brL k)) w := fun w =>
        run_index_int w _ k _ Try.underlying85 Try.underlying21 (by kernel_rfl) hlt (by
          simp only [List.getElem?_toArray, List.getElem?_map]
          rw [show brL[k]? = some (ith brL k) from by rw [ith, List.getD_eq_getElem?_getD, List.getElem?_eq_getElem (by simpa [brL] using hlt)]; rfl]; rfl)
      obtain ⟨p1, p2, p3, p4⟩ := pair_hit k hlt
      generalize hx : ith brL k = x at hix p1 p2 p3 p4
      simp only [brL, List.map_cons, List.map_nil] at hix
      have HX := Lib.hid hx
      clear hx
      by_cases hr : x = r
      · subst hr
        have P4 := Lib.hid p4
        clear p4
        have fin : ∀ (f : Int) (b : Bool), f = farI k → b = decide (k % 2 = 0) → PairPost x w (.returned (.tuple #[.int .i32 (x + f), .bool b, .bool true])) w := by
          intro f b h1 h2
          have := P4.out
          exact ⟨ret_ibb (by rw [this, h1]) (by rw [this, h2]) (by rw [this]), rfl⟩
        have FIN := Lib.hid fin
        clear fin
        by_cases a6 : (k : Int) < 6
        · by_cases a1 : (1 : Int) < k
          · clear p3
            by_cases e2 : (k : Int) % 2 = 0
            · go_wp2
              go_ret3
              exact FIN.out 2 _ (by unfold farI; rw [if_pos (by omega), if_pos (by omega)]) (decide_eq_true (by omega)).symm
            · go_wp2
              go_ret3
              exact FIN.out (-2) _ (by unfold farI; rw [if_neg (by omega), if_pos (by omega)]) (beq_even k)
          · have hx3 : x < 65339 := by omega
            clear p3
            by_cases e2 : (k : Int) % 2 = 0
            · go_wp2
              go_ret3
              exact FIN.out 1 _ (by unfold farI; rw [if_pos (by omega), if_neg (by omega)]) (decide_eq_true (by omega)).symm
            · go_wp2
              go_ret3
              exact FIN.out (-1) _ (by unfold farI; rw [if_neg (by omega), if_neg (by omega)]) (beq_even k)
        · by_cases a3 : 25 < k
          · have hx3 : 65339 ≤ x := by omega
            clear p3
            by_cases e2 : (k : Int) % 2 = 0
            · go_wp2
              go_ret3
              exact FIN.out 2 _ (by unfold farI; rw [if_pos (by omega), if_pos (by omega)]) (decide_eq_true (by omega)).symm
            · go_wp2
              go_ret3
              exact FIN.out (-2) _ (by unfold farI; rw [if_neg (by omega), if_pos (by omega)]) (beq_even k)
          · have hx3 : x < 65339 := by omega
            clear p3
            by_cases e2 : (k : Int) % 2 = 0
            · go_wp2
              go_ret3
              exact FIN.out 1 _ (by unfold farI; rw [if_pos (by omega), if_neg (by omega)]) (decide_eq_true (by omega)).symm
            · go_wp2
              go_ret3
              exact FIN.out (-1) _ (by unfold farI; rw [if_neg (by omega), if_neg (by omega)]) (beq_even k)
      · go_wp2
        go_round
        case rel => exact ⟨k + 1, by omega, by go_num, fun j hj e => by
          by_cases h : j = k
          · subst h; exact hr (HX.out.symm.trans e)
          · exact HM.out j (by omega) e⟩
        case measure => simp [intOf]; omega
    · go_wp2
      go_ret3
      have hm := pairI_miss r (fun j hj => HM.out j (by omega))
      exact ⟨ret_ibb (by rw [hm]) (by rw [hm]) (by rw [hm]), rfl⟩
end Go.Proofs.Ytbhhebheclfdlaa
