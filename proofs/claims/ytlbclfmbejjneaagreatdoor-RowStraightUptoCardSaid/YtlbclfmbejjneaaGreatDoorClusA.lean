/- Contracts of scan.Next and of cluster's small functions: regional, joiner, picture, alone, part, goes. Condition of scan.Next: utf8's two tables stand where start-up lays them. -/
import Derived.Test.YtlbclfmbejjneaaGreatDoorSpecC
import Derived.Test.YtlbclfmbejjneaaGreatDoorShelf
import Derived.Shelf.Unicode.DecodeAny
import Derived.Shelf.Unicode.DecodeLastEight
import Derived.Lib.RuneCount
namespace Go.Proofs.YtlbclfmbejjneaaGreatDoor
set_option linter.unusedVariables false
set_option linter.unusedSimpArgs false
open Go.RowKit Go.Proofs

/-- utf8's tables -/
def T8 (w : World) : Prop := Lib.Utf8Tabs (Tryz.lays197_ren.g 3) (Tryz.lays197_ren.g 4) w
theorem T8.below {B : Nat} {w w' : World} (h : T8 w) (hB : B = w.heap.size) (hb : Below B w w') : T8 w' := by
  subst hB
  obtain ⟨h1, h2⟩ := h
  exact ⟨fun c hc => cell_bl hb (cell_lt (h1 c hc)) (h1 c hc), fun i hi => ⟨cell_bl hb (cell_lt (h2 i hi).1) (h2 i hi).1, cell_bl hb (cell_lt (h2 i hi).2) (h2 i hi).2⟩⟩
theorem decN_le (s : ByteArray) : decN s ≤ s.size := Lib.decodeGo_le_size s
theorem decN_pos (s : ByteArray) (h : 0 < s.size) : 0 < decN s := by
  unfold decN Lib.decodeGo
  rw [if_neg (by omega)]
  exact Lib.decode_width_pos s 0 h
theorem decR_nn (s : ByteArray) : 0 ≤ decR s := by unfold decR; omega
theorem sNext_any (s : ByteArray) (w : World) (hT : T8 w) :
    Calls Tryz.prog 37 #[.string s] w fun e w' => e = .returned (.tuple #[.int .i32 (decR s), .int .i64 (decN s)]) ∧ Below w.heap.size w w' := by
  have hD := Lib.hid (Any.utf8_DecodeRuneInString Tryz.lays197 s w hT)
  go_enter Tryz.func37, Tryz.ntmps37
  go_wp2_with (go_at_call 61; refine hD.out.mono ?_; rintro e w1 ⟨rfl, hb⟩)
  go_ret2
  exact ⟨rfl, hb⟩
theorem joiner_any (r : Int) (w : World) : Calls Tryz.prog 57 #[.int .i32 r] w fun e w' => e = .returned (.bool (joinerB r)) ∧ w = w' := by
  go_enter Tryz.func57, Tryz.ntmps57
  go_wp2
  all_goals (go_ret; refine ⟨ret_b ?_, rfl⟩; unfold joinerB; rw [Bool.eq_iff_iff]; simp; try omega)
theorem regional_any (r : Int) (w : World) : Calls Tryz.prog 58 #[.int .i32 r] w fun e w' => e = .returned (.bool (regionalB r)) ∧ w = w' := by
  go_enter Tryz.func58, Tryz.ntmps58
  go_wp2
  all_goals (go_ret; refine ⟨ret_b ?_, rfl⟩; unfold regionalB; rw [Bool.eq_iff_iff]; simp; try omega)
theorem alone_any (r : Int) (w : World) : Calls Tryz.prog 55 #[.int .i32 r] w fun e w' => e = .returned (.bool (aloneB r)) ∧ Below w.heap.size w w' := by
  obtain ⟨k, hk⟩ : ∃ k, kindI r = k := ⟨_, rfl⟩
  obtain ⟨V, hV⟩ : ∃ V, aloneB r = V := ⟨_, rfl⟩
  have hK := Lib.hid (Kind_any r w)
  rw [hk] at hK
  have hv : V = if k = 0 then true else if k = 1 then !joinerB r else decide (r = 8232) || decide (r = 8233) := by rw [← hV, ← hk]; rfl
  have HV := Lib.hid hv
  rw [hV]
  clear hV hk hv
  go_enter Tryz.func55, Tryz.ntmps55
  go_upto_block 0 with (go_at_call 56; refine hK.out.mono ?_; rintro e w1 ⟨rfl, hb⟩)
  by_cases h0 : k = 0
  · subst h0
    go_wp2_with (fail)
    go_ret
    exact ⟨ret_b (by rw [HV.out]; rfl), hb⟩
  · have c0 : (k == 0) = false := by simpa using h0
    by_cases h1 : k = 1
    · subst h1
      obtain ⟨j, hj⟩ : ∃ j, joinerB r = j := ⟨_, rfl⟩
      have hJ := Lib.hid (joiner_any r w1)
      rw [hj] at hJ HV
      clear hj
      go_wp2_with (go_at_call 57; refine hJ.out.mono ?_; rintro e w2 ⟨rfl, hw⟩; subst hw)
      go_ret
      exact ⟨ret_b (by rw [HV.out]; rfl), hb⟩
    · have c1 : (k == 1) = false := by simpa using h1
      have hv := HV.out
      rw [if_neg h0, if_neg h1] at hv
      have HV2 := Lib.hid hv
      clear hv HV
      by_cases e1 : r = 8232
      · subst e1
        go_wp2_with (fail)
        go_ret
        exact ⟨ret_b (by rw [HV2.out]; rfl), hb⟩
      · have d1 : (r == 8232) = false := by simpa using e1
        go_wp2_with (fail)
        go_ret
        exact ⟨ret_b (by rw [HV2.out, Bool.eq_iff_iff]; simp [e1]), hb⟩
theorem picture_any (r : Int) (w : World) : Calls Tryz.prog 59 #[.int .i32 r] w fun e w' => e = .returned (.bool (pictureB r)) ∧ Below w.heap.size w w' := by
  obtain ⟨k, hk⟩ : ∃ k, kindI r = k := ⟨_, rfl⟩
  obtain ⟨u, hu⟩ : ∃ u, wideI r false = u := ⟨_, rfl⟩
  have hK := Lib.hid (Kind_any r w)
  have hW := Lib.hid (fun W => Wide_any r false W)
  obtain ⟨V, hV⟩ : ∃ V, pictureB r = V := ⟨_, rfl⟩
  have hv : V = (decide (k = 7) && decide (u = 2)) := by rw [← hV, ← hk, ← hu]; rfl
  have HV := Lib.hid hv
  rw [hV]
  rw [hk] at hK
  rw [hu] at hW
  clear hV hv hk hu
  go_enter Tryz.func59, Tryz.ntmps59
  by_cases h7 : k = 7
  · subst h7
    go_wp2_with (first
      | (go_at_call 56; refine hK.out.mono ?_; rintro e w1 ⟨rfl, hb⟩)
      | (go_at_call 65; refine (hW.out _).mono ?_; rintro e w2 ⟨rfl, hb2⟩))
    go_ret
    exact ⟨ret_b (by rw [HV.out, Bool.eq_iff_iff]; simp), hb.trans (hb2.mono hb.size)⟩
  · have c7 : (k == 7) = false := by simpa using h7
    go_wp2_with (go_at_call 56; refine hK.out.mono ?_; rintro e w1 ⟨rfl, hb⟩)
    go_ret
    exact ⟨ret_b (by rw [HV.out]; simp [h7]), hb⟩
theorem part_any (r : Int) (w : World) : Calls Tryz.prog 84 #[.int .i32 r] w fun e w' => e = .returned (.int .i64 (partI r : Nat)) ∧ w = w' := by
  obtain ⟨V, hV⟩ : ∃ V, partI r = V := ⟨_, rfl⟩
  have hv : V = if r < 4352 ∨ 55203 < r then 0 else if r ≤ 4447 then 1 else if r ≤ 4519 then 2 else if r ≤ 4607 then 4 else if r < 44032 then 0 else if (r - 44032) % 28 = 0 then 8 else 16 := by rw [← hV]; rfl
  have HV := Lib.hid hv
  rw [hV]
  clear hV hv
  go_enter Tryz.func84, Tryz.ntmps84
  by_cases h0 : r < 4352
  · go_wp2_with (fail)
    go_ret
    exact ⟨ret_i (by rw [HV.out, if_pos (.inl h0)]; rfl), rfl⟩
  by_cases h1 : 55203 < r
  · have g : r > 55203 := h1
    go_wp2_with (fail)
    go_ret
    exact ⟨ret_i (by rw [HV.out, if_pos (.inr h1)]; rfl), rfl⟩
  have g1 : ¬ r > 55203 := h1
  have hv := HV.out
  rw [if_neg (by omega)] at hv
  by_cases h2 : r ≤ 4447
  · rw [if_pos h2] at hv
    have HV2 := Lib.hid hv
    clear hv
    go_wp2_with (fail)
    go_ret
    exact ⟨ret_i (by rw [HV2.out]; rfl), rfl⟩
  rw [if_neg h2] at hv
  by_cases h3 : r ≤ 4519
  · rw [if_pos h3] at hv
    have HV2 := Lib.hid hv
    clear hv
    go_wp2_with (fail)
    go_ret
    exact ⟨ret_i (by rw [HV2.out]; rfl), rfl⟩
  rw [if_neg h3] at hv
  by_cases h4 : r ≤ 4607
  · rw [if_pos h4] at hv
    have HV2 := Lib.hid hv
    clear hv
    go_wp2_with (fail)
    go_ret
    exact ⟨ret_i (by rw [HV2.out]; rfl), rfl⟩
  rw [if_neg h4] at hv
  by_cases h5 : r < 44032
  · rw [if_pos h5] at hv
    have HV2 := Lib.hid hv
    clear hv
    go_wp2_with (fail)
    go_ret
    exact ⟨ret_i (by rw [HV2.out]; rfl), rfl⟩
  rw [if_neg h5] at hv
  have HV2 := Lib.hid hv
  clear hv
  have ew : wrap32 (r - 44032) = r - 44032 := by unfold wrap32; omega
  have et : (r - 44032).tmod 28 = (r - 44032) % 28 := Int.tmod_eq_emod_of_nonneg (by omega)
  by_cases h6 : (r - 44032) % 28 = 0
  · go_wp2_with (fail)
    go_ret
    exact ⟨ret_i (by rw [HV2.out, if_pos h6]; rfl), rfl⟩
  · go_wp2_with (fail)
    go_ret
    exact ⟨ret_i (by rw [HV2.out, if_neg h6]; rfl), rfl⟩
end Go.Proofs.YtlbclfmbejjneaaGreatDoor
