/- Contracts of the pile's methods: top, said, pop. -/
import Derived.Test.YtbhhebheclfdlaaPileA
import Derived.Test.YtbhhebheclfdlaaProg
import Derived.Deep.RegionHeld3
import Derived.Deep.CutBlock
import Derived.Deep.DeepCutAuto
namespace Go.Proofs.Ytbhhebheclfdlaa
set_option linter.unusedVariables false
set_option linter.unusedSimpArgs false
open Go.RowKit

theorem st_field0 (x y z : Value) (w : World) : Sem.run Try.prog (Instr.field 87 (.agg #[x, y, z]) 0) w = .ok x w := by kernel_rfl
theorem st_field1 (x y z : Value) (w : World) : Sem.run Try.prog (Instr.field 87 (.agg #[x, y, z]) 1) w = .ok y w := by kernel_rfl
theorem st_field2 (x y z : Value) (w : World) : Sem.run Try.prog (Instr.field 87 (.agg #[x, y, z]) 2) w = .ok z w := by kernel_rfl
def stV (s : LSt) : Value := .agg #[.int .u8 s.level, .int .i8 s.over, .bool s.iso]
set_option maxHeartbeats 400000 in
theorem top_any (w : World) (base p R : Nat) (P : LPile) (h : PileAt w base p R P) (hne : 0 < P.states.length) :
    Calls Try.prog 59 #[.pointer (some ⟨p, 0, none⟩)] w fun e w' => e = .returned (stV P.top) ∧ Below w.heap.size w w' := by
  obtain ⟨N, cap, hp, hR, hb1, hb2, hne', hlc, hcm, hcN⟩ := h
  obtain ⟨L, hL⟩ : ∃ L, P.states.length = L + 1 := ⟨P.states.length - 1, by omega⟩
  obtain ⟨t0, t1, t2⟩ := pile_top hR hL
  have hRl := hR.lt
  obtain ⟨n, hn⟩ : ∃ n, P.states.length = n := ⟨_, rfl⟩
  rw [hn] at hp hlc
  obtain ⟨c0, _, _, _, _, hpl⟩ := pile_cells hp
  unfold maxLen at hcm
  have gL0 : (0 : Int) ≤ (L : Int) := by omega
  have gL1 : (L : Int) < (n : Int) := by omega
  have hLc : (n : Int) ≤ (cap : Int) := by omega
  have hwr : IntKind.i64.wrap ((n : Int) - 1) = (L : Int) := by rw [IntKind.wrap_i64]; omega
  unfold stV
  generalize P.top = s at t0 t1 t2 ⊢
  clear hR hp hL hne hcN hn
  go_enter Try.func59, Try.ntmps59
  go_upto_region 1 with (fail)
  go_region_held3 (fun w' => w'.cell? ⟨p, 0, none⟩ = some (.slice (some ⟨R, 0, none⟩) n cap) ∧ w'.cell? ⟨R, L * 3, none⟩ = some (.int .u8 s.level) ∧ w'.cell? ⟨R, L * 3 + 1, none⟩ = some (.int .i8 s.over) ∧ w'.cell? ⟨R, L * 3 + 2, none⟩ = some (.bool s.iso)) (go_keep) (fail)
  go_wp2_with (fail)
  refine bodyPost_ret (results_cell_row rfl _ _ w.heap.size _ _ _ _ rfl (heap_alloc_new w _) Try.underlying87 rfl (by kernel_rfl)) rfl ⟨rfl, ?_⟩
  exact ((Below.refl w.heap.size w).alloc (Nat.le_refl _) _).drew
set_option maxRecDepth 100000 in
set_option maxHeartbeats 400000 in
theorem said_any (w : World) (base p R : Nat) (P : LPile) (d : Int) (h : PileAt w base p R P) (hne : 0 < P.states.length) :
    Calls Try.prog 60 #[.pointer (some ⟨p, 0, none⟩), .int .i8 d] w fun e w' => e = .returned (.int .i8 (P.said d)) ∧ Below w.heap.size w w' := by
  have ht := top_any w base p R P h hne
  have hs : P.said d = if P.top.over ≠ -1 then P.top.over else d := rfl
  unfold stV at ht
  generalize P.top = s at ht hs
  obtain ⟨l, o, b⟩ := s
  simp only at ht hs
  have HS := Lib.hid hs
  have HT := Lib.hid ht
  have hf1 := st_field1 (.int .u8 l) (.int .i8 o) (.bool b)
  clear hs h hne ht
  go_enter Try.func60, Try.ntmps60
  go_upto_region 1 with (fail)
  go_upto_region 2 with (go_at_call 59; refine HT.out.mono ?_; rintro e w1 ⟨rfl, hw1⟩)
  by_cases ho : o = -1
  · subst ho
    go_wp2_with (fail)
    go_ret
    exact ⟨ret_i (by rw [HS.out]; rfl), hw1⟩
  · have hb : (o != -1) = true := by simpa using ho
    go_wp2_with (fail)
    go_ret
    exact ⟨ret_i (by rw [HS.out, if_pos ho]), hw1⟩
set_option maxHeartbeats 400000 in
theorem pop_any (w : World) (base p R : Nat) (P : LPile) (h : PileAt w base p R P) (h1 : 1 < P.states.length) :
    Calls Try.prog 76 #[.pointer (some ⟨p, 0, none⟩)] w fun e w' => e = .returned (.tuple #[]) ∧ PileAt w' base p R P.pop ∧ Keep2 p R w w' := by
  obtain ⟨N, cap, hp, hR, hb1, hb2, hne', hlc, hcm, hcN⟩ := h
  obtain ⟨L, hL⟩ : ∃ L, P.states.length = L + 1 := ⟨P.states.length - 1, by omega⟩
  have hRl := hR.lt
  have hend : ∀ q, PileAt ((w.setCell ⟨p, 0, none⟩ (.slice (some ⟨R, 0, none⟩) L L)).drewN q) base p R P.pop ∧ Keep2 p R w ((w.setCell ⟨p, 0, none⟩ (.slice (some ⟨R, 0, none⟩) L L)).drewN q) := fun q => by
    refine ⟨⟨N, L, ?_, ?_, hb1, hb2, hne', ?_, by unfold maxLen at *; omega, by omega⟩, ((Keep2.refl p R w).set 0 _).drewN q⟩
    · have := pile_set0 (v := .slice (some ⟨R, 0, none⟩) L L) hp
      rw [P.pop_len, hL, Nat.add_sub_cancel]
      exact this
    · have := (row_set_other (i := 0) (v := .slice (some ⟨R, 0, none⟩) L L) hR hne').take (L * 3)
      rw [← flat_take P.states scell 3 (fun _ => rfl)] at this
      unfold LPile.pop
      rw [hL, Nat.add_sub_cancel]
      exact this
    · rw [P.pop_len]; omega
  have HE := Lib.hid hend
  obtain ⟨n, hn⟩ : ∃ n, P.states.length = n := ⟨_, rfl⟩
  rw [hn] at hp hlc
  obtain ⟨c0, _, _, _, fr, hpl⟩ := pile_cells hp
  have f0 := fr 0
  unfold maxLen at hcm
  have gL0 : (0 : Int) ≤ (L : Int) := by omega
  have gL1 : (L : Int) < (n : Int) := by omega
  have gL2 : (L : Int) ≤ (cap : Int) := by omega
  have hLc : (n : Int) ≤ (cap : Int) := by omega
  have hwr : IntKind.i64.wrap ((n : Int) - 1) = (L : Int) := by rw [IntKind.wrap_i64]; omega
  clear hR hp hL h1 hcN hn hend
  go_enter Try.func76, Try.ntmps76
  go_wp2_with (fail)
  go_region
  all_goals go_end0
  all_goals exact ⟨rfl, HE.out _⟩
end Go.Proofs.Ytbhhebheclfdlaa
