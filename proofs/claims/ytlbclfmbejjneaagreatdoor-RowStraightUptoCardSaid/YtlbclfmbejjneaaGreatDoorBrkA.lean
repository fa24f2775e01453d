/- Contracts of breaks.kind and wrap.blank. Condition: utf8's two tables stand where start-up lays them. -/
import Derived.Test.YtlbclfmbejjneaaGreatDoorPieces
namespace Go.Proofs.YtlbclfmbejjneaaGreatDoor
set_option linter.unusedVariables false
set_option linter.unusedSimpArgs false
open Go.RowKit Go.Proofs

theorem bkind_any (c : ByteArray) (w : World) (hT : T8 w) : Calls Tryz.prog 47 #[.string c] w fun e w' => e = .returned (.int .i8 (bkindI c)) ∧ Below w.heap.size w w' := by
  obtain ⟨X, hX⟩ : ∃ X, decR c = X := ⟨_, rfl⟩
  obtain ⟨K, hK⟩ : ∃ K, decN c = K := ⟨_, rfl⟩
  obtain ⟨b, hb⟩ : ∃ b, breakI X = b := ⟨_, rfl⟩
  obtain ⟨V, hV⟩ : ∃ V, bkindI c = V := ⟨_, rfl⟩
  have hv : V = if b = 8 ∨ (X = 65533 ∧ K = 1) then 0 else b := by rw [← hV]; unfold bkindI; rw [hX, hK, hb]
  have HV := Lib.hid hv
  have hN := Lib.hid (sNext_any c w hT)
  have hB := Lib.hid (fun W => Break_any X W)
  rw [hV]
  rw [hX, hK] at hN
  rw [hb] at hB
  clear hV hv hX hK hb hT
  go_enter Tryz.func47, Tryz.ntmps47
  go_upto_region 3 with (first
    | (go_at_call 37; refine hN.out.mono ?_; rintro e w1 ⟨rfl, hb1⟩)
    | (go_at_call 73; refine (hB.out _).mono ?_; rintro e w2 ⟨rfl, hb2⟩))
  have hb12 := hb1.trans (hb2.mono hb1.size)
  clear hb1 hb2 hN hB
  by_cases e8 : b = 8
  · subst e8
    go_wp2_with (fail)
    go_ret
    exact ⟨ret_i (by rw [HV.out]; rfl), hb12⟩
  have c8 : (b == 8) = false := by simpa using e8
  by_cases ex : X = 65533
  · subst ex
    by_cases ek : K = 1
    · subst ek
      go_wp2_with (fail)
      go_ret
      exact ⟨ret_i (by rw [HV.out, if_pos (.inr ⟨by first | rfl | trivial, by first | rfl | trivial⟩)]), hb12⟩
    · have ck : ((K : Int) == 1) = false := by rw [beq_eq_false_iff_ne]; omega
      go_wp2_with (fail)
      go_ret
      exact ⟨ret_i (by rw [HV.out, if_neg (fun h => h.elim e8 (fun h => ek h.2))]), hb12⟩
  · have cx : (X == 65533) = false := by simpa using ex
    go_wp2_with (fail)
    go_ret
    exact ⟨ret_i (by rw [HV.out, if_neg (fun h => h.elim e8 (fun h => ex h.1))]), hb12⟩
/-- is a cluster blank? -/
def blankB (c : ByteArray) : Bool := (decide (decR c ≠ 65533) || decide (1 < decN c)) && decide (breakI (decR c) = 1)
theorem blank_any (c : ByteArray) (w : World) (hT : T8 w) : Calls Tryz.prog 119 #[.string c] w fun e w' => e = .returned (.bool (blankB c)) ∧ Below w.heap.size w w' := by
  obtain ⟨X, hX⟩ : ∃ X, decR c = X := ⟨_, rfl⟩
  obtain ⟨K, hK⟩ : ∃ K, decN c = K := ⟨_, rfl⟩
  obtain ⟨b, hb⟩ : ∃ b, breakI X = b := ⟨_, rfl⟩
  obtain ⟨V, hV⟩ : ∃ V, blankB c = V := ⟨_, rfl⟩
  have hv : V = ((decide (X ≠ 65533) || decide (1 < K)) && decide (b = 1)) := by rw [← hV]; unfold blankB; rw [hX, hK, hb]
  have HV := Lib.hid hv
  have hN := Lib.hid (sNext_any c w hT)
  have hB := Lib.hid (fun W => Break_any X W)
  rw [hV]
  rw [hX, hK] at hN
  rw [hb] at hB
  clear hV hv hX hK hb hT
  go_enter Tryz.func119, Tryz.ntmps119
  go_upto_region 2 with (go_at_call 37; refine hN.out.mono ?_; rintro e w1 ⟨rfl, hb1⟩)
  by_cases ex : X = 65533
  · subst ex
    by_cases ek : 1 < K
    · have g1 : (K : Int) > 1 := by omega
      go_wp2_with (go_at_call 73; refine (hB.out _).mono ?_; rintro e w2 ⟨rfl, hb2⟩)
      go_ret
      exact ⟨ret_b (by rw [HV.out, Bool.eq_iff_iff]; simp [ek]), hb1.trans (hb2.mono hb1.size)⟩
    · have g1 : ¬ (K : Int) > 1 := by omega
      go_wp2_with (fail)
      go_ret
      exact ⟨ret_b (by rw [HV.out]; simp [ek]), hb1⟩
  · have cx : (X != 65533) = true := by simpa using ex
    go_wp2_with (go_at_call 73; refine (hB.out _).mono ?_; rintro e w2 ⟨rfl, hb2⟩)
    go_ret
    exact ⟨ret_b (by rw [HV.out, Bool.eq_iff_iff]; simp [ex]), hb1.trans (hb2.mono hb1.size)⟩
end Go.Proofs.YtlbclfmbejjneaaGreatDoor
