/- Contract of scan.Runes. No conditions. -/
import Derived.Test.YtlbclfmbejjneaaGreatDoorText
namespace Go.Proofs.YtlbclfmbejjneaaGreatDoor
set_option linter.unusedVariables false
set_option linter.unusedSimpArgs false
open Go.RowKit Go.Proofs Go.Shelf
attribute [local go_sem] Oper.semAt_some

theorem conv_str2 (d : ByteArray) (hz : d.size ≤ 2097152) :
    ∃ (C : World → Nat) (F : World → World), (∀ w, (convert 9 82 (.string d)).run Tryz.prog w = .ok (.slice (some ⟨w.heap.size, 0, none⟩) (runesI d).length (C w)) (F w)) ∧
      ∀ w, Below w.heap.size w (F w) ∧ Rd .i32 (F w) (some ⟨w.heap.size, 0, none⟩) (runesI d) ∧ (runesI d).length ≤ C w ∧ C w ≤ 9223372036854775807 := by
  have hs : Conv.runesFrom d d.size 0 #[] = ((runesI d).map (Value.int .i32)).toArray := by
    rw [runes_conv]; unfold runesI; simp
  have hsz : (Conv.runesFrom d d.size 0 #[]).size = (runesI d).length := by rw [hs]; simp
  have hle := runesF_len d d.size 0
  refine ⟨fun w => grownCap w (runesI d).length 0 21, fun w => w.drew.alloc (.cells (Conv.runesFrom d d.size 0 #[] ++ Array.replicate (grownCap w (runesI d).length 0 21 - (runesI d).length) (.int .i32 0)) 21), fun w => ?_, fun w => ⟨?_, ?_, ?_, ?_⟩⟩
  · have := run_runes_of_string (P := Tryz.prog) w 9 82 21 d Tryz.underlying9 Tryz.underlying82 Tryz.underlying21 (by rw [hsz]; unfold runesI; omega)
    rw [this, hsz]
  · exact (Below.refl _ _).drew.alloc (Nat.le_refl _) _
  · exact runes_rd w d 21 _
  · exact grownCap_ge w (runesI d).length 0 21
  · have h1 : (runesI d).length ≤ d.size := by unfold runesI; omega
    have h2 := grownCap_le_maxLen w (runesI d).length 0 21 (by unfold maxLen; omega)
    unfold maxLen at h2
    show grownCap w (runesI d).length 0 21 ≤ 9223372036854775807
    omega
theorem runesI_len (d : ByteArray) : (runesI d).length ≤ d.size := by
  have hle := runesF_len d d.size 0
  unfold runesI; omega
theorem Runes_any (d : ByteArray) (hz : d.size ≤ 2097152) (w : World) :
    Calls Tryz.prog 76 #[.string d] w fun e w' => ∃ a c, e = .returned (.slice a (runesI d).length c) ∧ Rd .i32 w' a (runesI d) ∧ (runesI d).length ≤ c ∧ c ≤ 9223372036854775807 ∧ Below w.heap.size w w' := by
  obtain ⟨C, F, hcv, hF⟩ := conv_str2 d hz
  go_enter Tryz.func76, Tryz.ntmps76
  go_wp2_with (fail)
  go_ret
  exact ⟨_, _, rfl, (hF w).2.1, (hF w).2.2.1, (hF w).2.2.2, (hF w).1⟩
theorem Runes_at (d : ByteArray) (hz : d.size ≤ 2097152) (w : World) :
    Calls Tryz.prog 76 #[.string d] w fun e w' => ∃ c, e = .returned (.slice (some ⟨w.heap.size, 0, none⟩) (runesI d).length c) ∧ Rd .i32 w' (some ⟨w.heap.size, 0, none⟩) (runesI d) ∧ (runesI d).length ≤ c ∧ c ≤ 9223372036854775807 ∧ Below w.heap.size w w' := by
  obtain ⟨C, F, hcv, hF⟩ := conv_str2 d hz
  go_enter Tryz.func76, Tryz.ntmps76
  go_wp2_with (fail)
  go_ret
  exact ⟨_, rfl, (hF w).2.1, (hF w).2.2.1, (hF w).2.2.2, (hF w).1⟩
theorem rd_set {k : IntKind} {w : World} {g o b i : Nat} {xs : List Int} {v : Value} (h : Rd k w (some ⟨g, o, none⟩) xs) (hne : b ≠ g) : Rd k (w.setCell ⟨b, i, none⟩ v) (some ⟨g, o, none⟩) xs := by
  rcases h with h | ⟨c, off, e, h1, h2⟩
  · exact .inl h
  · cases e
    exact .inr ⟨g, o, rfl, Nat.lt_of_lt_of_le h1 (KeepsWalks.setCell w ⟨b, i, none⟩ v).size, fun j hj => (World.cell?_setCell_far _ _ _ _ hne).trans (h2 j hj)⟩
end Go.Proofs.YtlbclfmbejjneaaGreatDoor
