/- Contracts on the road of level.Sides: a copy of a run, and a filter that strikes nothing. -/
import Derived.Test.YtbhhebheclfdlaaLevE
import Derived.Lib.SliceRun
namespace Go.Proofs.Ytbhhebheclfdlaa
set_option linter.unusedVariables false
set_option linter.unusedSimpArgs false
open Go.RowKit

theorem nats_ints (l : List Nat) : nats l = (ints l).map (Value.int .i64) := by unfold nats ints; simp [Function.comp_def]
theorem ith_ints (l : List Nat) (i : Nat) : ith (ints l) i = ((l.getD i 0 : Nat) : Int) := by
  unfold ith ints
  rw [List.getD_eq_getElem?_getD, List.getElem?_map, List.getD_eq_getElem?_getD]
  cases l[i]? <;> rfl
theorem ints_len (l : List Nat) : (ints l).length = l.length := by unfold ints; simp
theorem own_out {w : World} {base e n cap : Nat} {a : Option Addr} {l : List Nat} (h : w.ownsRow base e 1 (.slice a n cap) n (nats l)) (hl : l.length = n) : OutAt .i64 e w base a cap (ints l) := by
  unfold OutAt
  rw [ints_len, hl, ← nats_ints]
  exact h
set_option maxRecDepth 100000 in
set_option maxHeartbeats 400000 in
theorem ClI_any (G o n c L : Nat) (l : List Nat) (w : World) (hl : l.length = L) (hd : Rd .i64 w (some ⟨G, o, none⟩) (ints l)) (hp : 0 < L) (hn : L ≤ 2097152) :
    Calls Try.prog 68 #[.slice (some ⟨G, o, none⟩) L c] w fun e w' => ∃ a c', e = .returned (.slice a L c') ∧ OutAt .i64 3 w' w.heap.size a c' (ints l) ∧ Below w.heap.size w w' := by
  obtain ⟨i3, hi3, hz3, ha3, hb3⟩ := info_parts (Try.info_int)
  have hcells : ∀ j u, (nats l)[j]? = some u → (w.alloc (.cells #[] 3)).cell? ((⟨G, o, none⟩ : Addr).add j) = some u := fun j u hj => by
    have hjl : j < l.length := by
      rcases Nat.lt_or_ge j l.length with h | h
      · exact h
      · rw [List.getElem?_eq_none (by rw [nats_len]; exact h)] at hj; cases hj
    obtain ⟨b, off, e, hb, hc⟩ := hd.at ((Below.refl w.heap.size w).alloc (Nat.le_refl _) (.cells #[] 3)) j (by rw [ints_len]; exact hjl)
    cases e
    rw [nats_get l j hjl] at hj
    cases hj
    rw [Addr.add_lit, hc, ith_ints]
  have HC := Lib.hid hcells
  have HL := Lib.hid hl
  have q22 : ∀ (w : World) (a : Option Addr) (n c n' c' : Nat), (binOp .eql 32 (.slice a n c) (.slice none n' c')).run Try.prog w = .ok (.bool a.isNone) w := fun w a n c n' c' => Lib.run_eql_slice_nil w _ _ a n c n' c' Try.underlying32
  clear hcells hl hd
  go_enter Try.func68, Try.ntmps68
  go_wp2_with (at_builtin; refine wpList_append_own _ rfl _ _ 32 rfl w.heap.size 3 i3 (.int .i64 0) 1 8 Try.underlying32 hi3 hz3 ha3 hb3 rfl (by decide) _ _ _ rfl (World.ownsRow_made w #[] 0 (Nat.le_refl _) (Nat.zero_le _) (by simp)) ⟨G, o, none⟩ L c (nats l) rfl (by rw [nats_len, HL.out]; omega) HC.out (fun u hu => by unfold nats at hu; rw [List.mem_map] at hu; obtain ⟨x, _, rfl⟩ := hu; rfl) (by unfold maxLen; omega) (by omega) (by simp) ?_; intro v' w' ho hg _)
  obtain ⟨va, vc, hva, _, _⟩ := own_slice ho
  subst hva
  go_ret
  rw [Nat.zero_add, List.nil_append] at ho
  refine ⟨va, vc, by rw [Nat.zero_add]; rfl, own_out ho HL.out, ((Below.refl w.heap.size w).alloc (Nat.le_refl _) _).grown hg (by simp) (fun k hk => by cases hk; exact Nat.le_refl _)⟩
theorem SidesF_any (x : Int) (B : Nat) (n : Nat) (W : World) (hc : W.cell? ⟨B, 0, none⟩ = some (.int .i64 n)) :
    Calls Try.prog 69 #[.int .i64 x, .pointer (some ⟨B, 0, none⟩)] W fun e w' => e = .returned (.bool (decide (x < 0) || decide ((n : Int) ≤ x))) ∧ w' = W := by
  go_enter Try.func69, Try.ntmps69
  by_cases h0 : x < 0
  · go_wp2_with (fail)
    go_ret
    exact ⟨ret_b (by simp [h0]), rfl⟩
  · go_wp2_with (fail)
    go_ret
    exact ⟨ret_b (by rw [decide_eq_false (show ¬ x < 0 by omega)]; rfl), rfl⟩
set_option maxRecDepth 100000 in
set_option maxHeartbeats 400000 in
theorem IxF_any (a : Option Addr) (l : List Nat) (L c B n : Nat) (w : World) (hl : l.length = L) (hd : Rd .i64 w a (ints l)) (hc : w.cell? ⟨B, 0, none⟩ = some (.int .i64 n)) (hn : L ≤ 2097152) (hall : ∀ p ∈ l, p < n) :
    Calls Try.prog 77 #[.slice a L c, .func (.func 69) #[] #[.pointer (some ⟨B, 0, none⟩)]] w fun e w' => e = .returned (.int .i64 (-1)) ∧ w' = w := by
  have HL := Lib.hid hl
  have HA := Lib.hid hall
  have HC := Lib.hid hc
  clear hl hall hc
  go_enter Try.func77, Try.ntmps77
  go_wp2_with (fail)
  go_loopw [8] (fun u wx => ∃ i : Nat, i ≤ L ∧ u = .int .i64 i ∧ wx = w) (fun u _ => L - (intOf u).toNat)
  case atStart => exact ⟨0, by omega, rfl, rfl⟩
  case round =>
    obtain ⟨i, hi, rfl, hwx⟩ := hrel
    have hwx' := hwx.symm
    clear hwx
    subst hwx'
    by_cases hlt : i < L
    · obtain ⟨G, o, rfl, hG, hcell⟩ := hd.at (Below.refl _ _) i (by rw [ints_len, HL.out]; exact hlt)
      rw [ith_ints] at hcell
      obtain ⟨x, hx⟩ : ∃ x, l.getD i 0 = x := ⟨_, rfl⟩
      have hxn : x < n := HA.out x (by rw [← hx, List.getD_eq_getElem?_getD, List.getElem?_eq_getElem (by have := HL.out; omega)]; exact List.getElem_mem _)
      rw [hx] at hcell
      have HS : Hid (Calls Try.prog 69 #[.int .i64 x, .pointer (some ⟨B, 0, none⟩)] w fun e w' => e = .returned (.bool false) ∧ w' = w) := Lib.hid ((SidesF_any x B n w HC.out).mono fun e w' h => ⟨h.1.trans (ret_b (by rw [decide_eq_false (by omega), decide_eq_false (by omega)]; rfl)), h.2⟩)
      clear hx
      go_wp2_with (go_at_call 69; refine HS.out.mono ?_; rintro e w' ⟨rfl, hw'⟩; have hw2 := hw'.symm; clear hw'; subst hw2)
      go_roundw
      case rel => exact ⟨i + 1, by omega, by go_num, trivial⟩
      case measure => simp [intOf]; omega
    · have hie : i = L := by omega
      clear hi
      go_wp2_with (fail)
      go_ret
      exact ⟨rfl, rfl⟩
theorem DelF_any (a : Option Addr) (l : List Nat) (L c B n : Nat) (w : World) (hl : l.length = L) (hd : Rd .i64 w a (ints l)) (hc : w.cell? ⟨B, 0, none⟩ = some (.int .i64 n)) (hn : L ≤ 2097152) (hall : ∀ p ∈ l, p < n) :
    Calls Try.prog 67 #[.slice a L c, .func (.func 69) #[] #[.pointer (some ⟨B, 0, none⟩)]] w fun e w' => e = .returned (.slice a L c) ∧ w' = w := by
  have HI := Lib.hid (IxF_any a l L c B n w hl hd hc hn hall)
  clear hl hd hc hall
  go_enter Try.func67, Try.ntmps67
  go_wp2_with (go_at_call 77; refine HI.out.mono ?_; rintro e w' ⟨rfl, hw'⟩; have hw2 := hw'.symm; clear hw'; subst hw2)
  go_ret
  exact ⟨rfl, rfl⟩
end Go.Proofs.Ytbhhebheclfdlaa
