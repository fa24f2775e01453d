/- Contracts of weak.rules and weak.Resolve: all seven rules, in a list of its own. -/
import Derived.Test.YtbhhebheclfdlaaWeakR
import Derived.Test.YtbhhebheclfdlaaWeakT
import Derived.Test.YtbhhebheclfdlaaDirs
namespace Go.Proofs.Ytbhhebheclfdlaa
set_option linter.unusedVariables false
set_option linter.unusedSimpArgs false
open Go.RowKit

def rulesC : Array Value := #[.func (.func 80) #[] #[], .func (.func 81) #[] #[], .func (.func 82) #[] #[], .func (.func 83) #[] #[], .func (.func 84) #[] #[], .func (.func 85) #[] #[], .func (.func 86) #[] #[]]
set_option maxRecDepth 100000 in
set_option maxHeartbeats 400000 in
theorem rules_any (w : World) : Calls Try.prog 75 #[] w fun e w' => e = .returned (.agg rulesC) ∧ Below w.heap.size w w' := by
  go_enter Try.func75, Try.ntmps75
  go_upto_region 1 with (fail)
  go_wp2_with (refine wpList_store_row rfl 108 (.tmp 0) (.tmp 1) rfl w.heap.size rulesC rfl rfl 108 _ (heap_alloc_new w _) (by kernel_rfl) rfl (by kernel_rfl) ?_)
  refine bodyPost_ret (results_cell_row rfl _ _ w.heap.size _ _ _ _ rfl (setRow_heap _ _ _ _ _ _ (heap_alloc_new w _)) Try.underlying108 rfl (by kernel_rfl)) rfl ⟨rfl, ?_⟩
  exact tab_below w _ _
theorem rules_0 (w : World) : Sem.run Try.prog (Instr.index 108 (.agg rulesC) (.int .i64 0)) w = .ok (.func (.func 80) #[] #[]) w := by kernel_rfl
theorem rules_1 (w : World) : Sem.run Try.prog (Instr.index 108 (.agg rulesC) (.int .i64 1)) w = .ok (.func (.func 81) #[] #[]) w := by kernel_rfl
theorem rules_2 (w : World) : Sem.run Try.prog (Instr.index 108 (.agg rulesC) (.int .i64 2)) w = .ok (.func (.func 82) #[] #[]) w := by kernel_rfl
theorem rules_3 (w : World) : Sem.run Try.prog (Instr.index 108 (.agg rulesC) (.int .i64 3)) w = .ok (.func (.func 83) #[] #[]) w := by kernel_rfl
theorem rules_4 (w : World) : Sem.run Try.prog (Instr.index 108 (.agg rulesC) (.int .i64 4)) w = .ok (.func (.func 84) #[] #[]) w := by kernel_rfl
theorem rules_5 (w : World) : Sem.run Try.prog (Instr.index 108 (.agg rulesC) (.int .i64 5)) w = .ok (.func (.func 85) #[] #[]) w := by kernel_rfl
theorem rules_6 (w : World) : Sem.run Try.prog (Instr.index 108 (.agg rulesC) (.int .i64 6)) w = .ok (.func (.func 86) #[] #[]) w := by kernel_rfl
def ruleF (n : Nat) (s : Int) : Nat → List Int → List Int
  | 0, l => marksF n 0 s l
  | 1, l => arabicF n 0 s l
  | 2, l => lettersF n 0 l
  | 3, l => sepF (n - 2) 1 l
  | 4, l => termF (n + 1) 0 l
  | 5, l => othersF n 0 l
  | _, l => digitsF n 0 s l
def stageF (n : Nat) (s : Int) (l : List Int) : Nat → List Int
  | 0 => l
  | k + 1 => ruleF n s k (stageF n s l k)
theorem stage_all (ks : List Int) (sos : Int) : stageF ks.length (if sos = 1 then 1 else 0) (ks.map lkn) 7 = weakF ks sos := rfl
def WeakPost (ks : List Int) (sos : Int) (w : World) (e : Ending) (w' : World) : Prop :=
  ∃ ao cap, e = .returned (.slice ao ks.length cap) ∧ (weakF ks sos).length = ks.length ∧ OutAt .i8 40 w' w.heap.size ao cap (weakF ks sos) ∧ Below w.heap.size w w'
set_option maxRecDepth 100000 in
set_option maxHeartbeats 1000000 in
theorem WResolve_any (ka : Option Addr) (ks : List Int) (kc : Nat) (sos : Int) (w : World) (hk : Rd .i8 w ka ks) (hkn : ks.length ≤ 2097152) :
    Calls Try.prog 54 #[.slice ka ks.length kc, .int .i8 sos] w (WeakPost ks sos w) := by
  have hb := began_any ka ks kc sos w hk hkn
  have hfin := stage_all ks sos
  obtain ⟨s, hs⟩ : ∃ s : Int, (if sos = 1 then 1 else 0) = s := ⟨_, rfl⟩
  unfold BeganPost at hb
  rw [hs] at hb hfin
  obtain ⟨l0, hl0⟩ : ∃ l0, ks.map lkn = l0 := ⟨_, rfl⟩
  have hlen0 : l0.length = ks.length := by rw [← hl0]; simp
  rw [hl0] at hb hfin
  obtain ⟨n, hn⟩ : ∃ n, ks.length = n := ⟨_, rfl⟩
  rw [hn] at hb hfin hkn hlen0 ⊢
  obtain ⟨B, hB⟩ : ∃ B, w.heap.size = B := ⟨_, rfl⟩
  have hpost : ∀ ao cap w', (stageF n s l0 7).length = n → OutAt .i8 40 w' w.heap.size ao cap (stageF n s l0 7) → Below w.heap.size w w' → WeakPost ks sos w (.returned (.slice ao n cap)) w' := fun ao cap w' h1 h2 h3 =>
    ⟨ao, cap, by rw [hn], by rw [← hfin, hn]; exact h1, by rw [← hfin]; exact h2, h3⟩
  have HPOST := Lib.hid hpost
  have HL0 := Lib.hid hlen0
  clear hk hs hl0 hn hfin hpost hlen0
  go_enter Try.func54, Try.ntmps54
  go_wp2_with (first | (go_at_call 74; refine hb.mono ?_; rintro e w1 ⟨ao, cap, rfl, hO, hb1⟩) | (go_at_call 75; refine (rules_any w1).mono ?_; rintro e w2 ⟨rfl, hb2⟩))
  have hbw := hb1.trans (hb2.mono hb1.size)
  have hO2 := OutAt.keep hO hb2
  clear hb hb1 hb2 hO
  have q0 := rules_0
  have q1 := rules_1
  have q2 := rules_2
  have q3 := rules_3
  have q4 := rules_4
  have q5 := rules_5
  have q6 := rules_6
  go_loopw [15] (fun c wx => ∃ i : Nat, i ≤ 7 ∧ c = .int .i64 i ∧ (stageF n s l0 i).length = n ∧ OutAt .i8 40 wx w.heap.size ao cap (stageF n s l0 i) ∧ Below w.heap.size w wx) (fun c _ => 7 - (intOf c).toNat)
  case atStart => exact ⟨0, by omega, rfl, HL0.out, hO2, hbw⟩
  case round =>
    obtain ⟨i, hi, rfl, hlen, hO, hbel⟩ := hrel
    have HLEN := Lib.hid hlen
    have HO := Lib.hid hO
    have hrow : ∀ k, (Value.slice ao n cap).ownBlock = some k → w.heap.size ≤ k := fun k hk => (World.ownsRow.lt hO k (by rw [hlen]; exact hk)).1
    have HROW := Lib.hid hrow
    clear hlen hO hO2 hbw hrow
    by_cases h7 : i = 7
    · subst h7
      go_wp2_with (fail)
      go_ret
      exact HPOST.out ao cap _ HLEN.out HO.out hbel
    · have h : i = 0 ∨ i = 1 ∨ i = 2 ∨ i = 3 ∨ i = 4 ∨ i = 5 ∨ i = 6 := by omega
      clear h7 hi
      rcases h with rfl | rfl | rfl | rfl | rfl | rfl | rfl
      all_goals
        go_wp2_with (first | (go_at_call 80; refine (marks_any ao cap w.heap.size n s _ wr HLEN.out HO.out hkn).mono ?_; rintro e w3 ⟨rfl, h1, h2, h3⟩) | (go_at_call 81; refine (arabic_any ao cap w.heap.size n s _ wr HLEN.out HO.out hkn).mono ?_; rintro e w3 ⟨rfl, h1, h2, h3⟩) | (go_at_call 82; refine (letters_any ao cap w.heap.size n s _ wr HLEN.out HO.out hkn).mono ?_; rintro e w3 ⟨rfl, h1, h2, h3⟩) | (go_at_call 83; refine (separators_any ao cap w.heap.size n s _ wr HLEN.out HO.out hkn).mono ?_; rintro e w3 ⟨rfl, h1, h2, h3⟩) | (go_at_call 84; refine (terminators_any ao cap w.heap.size n s _ wr HLEN.out HO.out hkn).mono ?_; rintro e w3 ⟨rfl, h1, h2, h3⟩) | (go_at_call 85; refine (others_any ao cap w.heap.size n s _ wr HLEN.out HO.out hkn).mono ?_; rintro e w3 ⟨rfl, h1, h2, h3⟩) | (go_at_call 86; refine (digits_any ao cap w.heap.size n s _ wr HLEN.out HO.out hkn).mono ?_; rintro e w3 ⟨rfl, h1, h2, h3⟩))
        go_roundw
        case rel => first | exact ⟨1, by omega, rfl, h1, h2, hbel.grown h3 hbel.size HROW.out⟩ | exact ⟨2, by omega, rfl, h1, h2, hbel.grown h3 hbel.size HROW.out⟩ | exact ⟨3, by omega, rfl, h1, h2, hbel.grown h3 hbel.size HROW.out⟩ | exact ⟨4, by omega, rfl, h1, h2, hbel.grown h3 hbel.size HROW.out⟩ | exact ⟨5, by omega, rfl, h1, h2, hbel.grown h3 hbel.size HROW.out⟩ | exact ⟨6, by omega, rfl, h1, h2, hbel.grown h3 hbel.size HROW.out⟩ | exact ⟨7, by omega, rfl, h1, h2, hbel.grown h3 hbel.size HROW.out⟩
        case measure => simp [intOf]
end Go.Proofs.Ytbhhebheclfdlaa
