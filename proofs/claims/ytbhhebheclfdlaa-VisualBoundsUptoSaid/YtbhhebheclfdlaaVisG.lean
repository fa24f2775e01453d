/- Contract of visual.Order: the order in which places are seen. -/
import Derived.Test.YtbhhebheclfdlaaVisF
import Derived.Scope
namespace Go.Proofs.Ytbhhebheclfdlaa
set_option linter.unusedVariables false
set_option linter.unusedSimpArgs false
open Go.RowKit

def lvF (ls : List Nat) (i : Nat) : Nat := min (ls.getD i 0) 126
def topF (ls : List Nat) : Nat → Nat
  | 0 => 0
  | i + 1 => max (topF ls i) (lvF ls i)
theorem topF_le (ls : List Nat) : ∀ i, topF ls i ≤ 126
  | 0 => Nat.zero_le _
  | i + 1 => by have := topF_le ls i; rw [topF]; unfold lvF; omega
/-- the order behind d levels from x + 1 up -/
def ordG (ls : List Nat) (n x d p : Nat) : Int := ((oF (lvF ls) n (x + 1) d p : Nat) : Int)
def orderI (ls : List Nat) : List Int := listOf ls.length (ordG ls ls.length 0 (topF ls ls.length))
/-- in the midst of a level: what ends ahead of fr is turned -/
def midG (ls : List Nat) (n x d fr p : Nat) : Int := ordG ls n (x + 1) d (if p < fr then revI (lvF ls) n (x + 1) p else p)
theorem ordG_next (ls : List Nat) (n x d p : Nat) : ordG ls n (x + 1) d (revI (lvF ls) n (x + 1) p) = ordG ls n x (d + 1) p := rfl
theorem midG_zero (ls : List Nat) (n x d p : Nat) : midG ls n x d 0 p = ordG ls n (x + 1) d p := by
  unfold midG; rw [if_neg (Nat.not_lt_zero _)]
theorem midG_end (ls : List Nat) (n x d fr p : Nat) (h : p < n) (hf : n ≤ fr) : midG ls n x d fr p = ordG ls n x (d + 1) p := by
  unfold midG; rw [if_pos (by omega), ordG_next]
theorem midG_turn (ls : List Nat) (n x d fr i p : Nat) (hfi : fr ≤ i) (hin : i ≤ n) (hp : p < n) (hl : fr = 0 ∨ lvF ls (fr - 1) < x + 1) (ha : ∀ q, fr ≤ q → q < i → x + 1 ≤ lvF ls q) (hr : i = n ∨ lvF ls i < x + 1) :
    revG (midG ls n x d fr) fr (i - fr) p = midG ls n x d (i + 1) p := by
  have hs : Str (lvF ls) n (x + 1) fr i := ⟨hfi, hin, ha, hl, hr⟩
  unfold revG
  by_cases h : fr ≤ p ∧ p < fr + (i - fr)
  · rw [if_pos h]
    unfold midG
    rw [if_neg (by omega), if_pos (by omega), rev_str hs h.1 (by omega)]
    congr 1
    omega
  · rw [if_neg h]
    unfold midG
    by_cases h1 : p < fr
    · rw [if_pos h1, if_pos (by omega)]
    · rw [if_neg h1]
      by_cases h2 : p = i
      · rw [if_pos (by omega), rev_out (by rcases hr with h | h <;> (subst h2; omega))]
      · rw [if_neg (by omega)]
def dealN (n i : Nat) (p : Nat) : Int := if p < i then p else 0
def OrdPost (ls : List Nat) (n : Nat) (w : World) (e : Ending) (w' : World) : Prop :=
  e = .returned (.slice (some ⟨w.heap.size, 0, none⟩) n n) ∧ OutAt .i64 3 w' w.heap.size (some ⟨w.heap.size, 0, none⟩) n (orderI ls) ∧ Below w.heap.size w w'
set_option maxRecDepth 100000 in
set_option maxHeartbeats 1000000 in
theorem Order_any (a : Option Addr) (ls : List Nat) (n c : Nat) (w : World) (hl : ls.length = n) (hd : Rd .u8 w a (ints ls)) (hn : n ≤ 2097152) :
    Calls Try.prog 19 #[.slice a n c] w (OrdPost ls n w) := by
  obtain ⟨i3, hi3, hz3, ha3, hb3⟩ := info_parts (Try.info_int)
  have HL := Lib.hid hl
  have hOI : orderI ls = listOf n (ordG ls n 0 (topF ls n)) := by unfold orderI; rw [hl]
  have HOI := Lib.hid hOI
  have hmk := run_make_row (P := Try.prog) 32 3 i3 (.int .i64 0) Try.underlying32 hi3 hz3 ha3 rfl .i64 .i64 n (by rw [hb3]; omega) (by omega)
  clear hl hOI
  go_enter Try.func19, Try.ntmps19
  go_wp2_with (fail)
  refine wp_scope_straight ?_
  go_wp2_with (fail)
  clear hmk
  have hO0 : OutAt .i64 3 (w.alloc (.cells (madeCells #[.int .i64 0] n) 3)) w.heap.size (some ⟨w.heap.size, 0, none⟩) n (listOf n (dealN n 0)) :=
    out_of_row ((World.rowIs_made w (.int .i64 0) n 3).congr fun i hi => by rw [listOf_ith _ _ _ hi]; unfold dealN; rw [if_neg (Nat.not_lt_zero _)]) (listOf_len _ _) (Nat.le_refl _) (by unfold maxLen; omega)
  have hb0 := (Below.refl w.heap.size w).alloc (Nat.le_refl _) (.cells (madeCells #[.int .i64 0] n) 3)
  go_loopw [4, 5, 6, 15] (fun u4 _ _ u wx => ∃ i : Nat, i ≤ n ∧ u = .int .i64 i ∧ u4 = .int .u8 (topF ls i : Nat) ∧ OutAt .i64 3 wx w.heap.size (some ⟨w.heap.size, 0, none⟩) n (listOf n (dealN n i)) ∧ Below w.heap.size w wx) (fun _ _ _ u _ => n - (intOf u).toNat)
  case atStart => exact ⟨0, by omega, rfl, rfl, hO0, hb0⟩
  case round =>
    obtain ⟨i, hi, rfl, rfl, hO, hbel⟩ := hrel
    clear hO0 hb0
    by_cases hlt : i < n
    · obtain ⟨G, o, rfl, hG, hcl⟩ := hd.at hbel i (by rw [ints_len, HL.out]; exact hlt)
      rw [ith_ints] at hcl
      obtain ⟨x, hx⟩ : ∃ x, ls.getD i 0 = x := ⟨_, rfl⟩
      rw [hx] at hcl
      obtain ⟨_, hGe, _, _, hXo, hFo, _, _⟩ := hO.at i (by rw [listOf_len]; exact hlt)
      cases hGe
      generalize ith (listOf n (dealN n i)) i = vo at hXo
      have hS := hO.set i (i : Int)
      have hnx : (listOf n (dealN n i)).set i (i : Int) = listOf n (dealN n (i + 1)) := by
        rw [listOf_set _ _ _ _ hlt]
        refine listOf_congr fun p hp => ?_
        unfold dealN
        by_cases e : p = i
        · rw [if_pos e, if_pos (by omega), e]
        · rw [if_neg e]
          by_cases e2 : p < i
          · rw [if_pos e2, if_pos (by omega)]
          · rw [if_neg e2, if_neg (by omega)]
      rw [hnx] at hS
      obtain ⟨m6, hm6⟩ : ∃ m6, lvF ls i = m6 := ⟨_, rfl⟩
      have hmi : min (x : Int) 126 = (m6 : Int) := by rw [← hm6]; unfold lvF; rw [hx]; omega
      have htn : topF ls (i + 1) = max (topF ls i) m6 := by rw [topF, hm6]
      obtain ⟨tp, htp⟩ : ∃ tp, topF ls i = tp := ⟨_, rfl⟩
      obtain ⟨tq, htq⟩ : ∃ tq, topF ls (i + 1) = tq := ⟨_, rfl⟩
      rw [htp, htq] at htn
      have hmx : max (tp : Int) (m6 : Int) = (tq : Int) := by omega
      have HTQ := Lib.hid htq
      have HS := Lib.hid hS
      have HB := Lib.hid (hbel.setCell (p := ⟨w.heap.size, i, none⟩) (Nat.le_refl _) (.int .i64 (i : Int)))
      have gi0 : (0 : Int) ≤ (i : Int) := by omega
      have gi1 : (i : Int) < (n : Int) := by omega
      rw [htp]
      clear hx hm6 htn htp htq hS hnx hO hbel
      go_wp2_with (fail)
      go_roundw
      case rel => exact ⟨i + 1, by omega, by go_num, by rw [HTQ.out], HS.out, HB.out⟩
      case measure => simp [intOf]; omega
    · have hie : n = i := by omega
      subst hie
      obtain ⟨g, hg⟩ : ∃ g, topF ls n = g := ⟨_, rfl⟩
      have hg6 : g ≤ 126 := by rw [← hg]; exact topF_le ls n
      rw [hg] at HOI ⊢
      have hO1 : OutAt .i64 3 wr w.heap.size (some ⟨w.heap.size, 0, none⟩) n (listOf n (ordG ls n g 0)) := by
        rw [listOf_congr (fun p hp => show ordG ls n g 0 p = dealN n n p by unfold dealN; rw [if_pos hp]; rfl)]
        exact hO
      have HO1 := Lib.hid hO1
      have HB1 := Lib.hid hbel
      clear hO hg hO1 hbel hi hlt
      go_wp2_with (fail)
      refine wp_label ?_
      go_wp2_with (fail)
      go_loopw [7, 8, 9, 37] (fun u7 _ _ _ wx => ∃ x d : Nat, u7 = .int .u8 x ∧ x + d = g ∧ OutAt .i64 3 wx w.heap.size (some ⟨w.heap.size, 0, none⟩) n (listOf n (ordG ls n x d)) ∧ Below w.heap.size w wx) (fun u7 _ _ _ _ => (intOf u7).toNat)
      case atStart => exact ⟨g, 0, rfl, by omega, HO1.out, HB1.out⟩
      case round =>
        obtain ⟨x, d, rfl, hxd, hO, hbel⟩ := hrel
        clear HO1 HB1
        cases x with
        | zero =>
          have hdg : d = g := by omega
          rw [hdg, ← HOI.out] at hO
          clear hxd hdg
          go_wp2_with (fail)
          unfold Exit.noGoto
          go_ret
          exact ⟨rfl, hO, hbel⟩
        | succ x =>
          obtain ⟨X, hX⟩ : ∃ X, x + 1 = X := ⟨_, rfl⟩
          rw [hX] at hO ⊢
          have hX0 : ((X : Int) == 0) = false := by rw [beq_eq_false_iff_ne]; omega
          have hX6 : X ≤ 126 := by omega
          have hO1 : OutAt .i64 3 wr w.heap.size (some ⟨w.heap.size, 0, none⟩) n (listOf n (midG ls n x d 0)) := by
            rw [listOf_congr (fun p _ => midG_zero ls n x d p), hX]; exact hO
          have HX := Lib.hid hX
          have HOA := Lib.hid hO1
          have HBA := Lib.hid hbel
          clear hO hO1 hbel
          go_wp2_with (fail)
          go_loopw [8, 9, 37] (fun u8 _ u wx => ∃ i fr : Nat, u = .int .i64 i ∧ u8 = .int .i64 fr ∧ i ≤ n + 1 ∧ fr ≤ i ∧ (i = n + 1 → fr = n + 1) ∧ (fr = 0 ∨ lvF ls (fr - 1) < x + 1 ∨ fr = n + 1) ∧ (∀ q, fr ≤ q → q < i → q < n → x + 1 ≤ lvF ls q) ∧ OutAt .i64 3 wx w.heap.size (some ⟨w.heap.size, 0, none⟩) n (listOf n (midG ls n x d fr)) ∧ Below w.heap.size w wx) (fun _ _ u _ => n + 1 - (intOf u).toNat)
          case atStart => exact ⟨0, 0, rfl, rfl, by omega, by omega, fun h => by omega, .inl rfl, fun q _ h => by omega, HOA.out, HBA.out⟩
          case round =>
            obtain ⟨i, fr, rfl, rfl, hi, hfi, hend, hlf, hal, hO, hbel⟩ := hrel
            clear HOA HBA
            by_cases hin1 : i = n + 1
            · have hfe := hend hin1
              have hO2 : OutAt .i64 3 wr w.heap.size (some ⟨w.heap.size, 0, none⟩) n (listOf n (ordG ls n x (d + 1))) := by
                rw [← listOf_congr (fun p hp => midG_end ls n x d fr p hp (by omega))]; exact hO
              have HO2 := Lib.hid hO2
              have HB2 := Lib.hid hbel
              clear hO hO2 hbel hal hlf hend hfi hfe
              subst hin1
              have hX1 : (X : Int) - 1 = x := by have := HX.out; omega
              go_wp2_with (fail)
              go_roundw
              case rel => exact ⟨x, d + 1, by first | rfl | rw [hX1], by omega, HO2.out, HB2.out⟩
              case measure => simp [intOf]; omega
            · have HO := Lib.hid hO
              have HBE := Lib.hid hbel
              have HAL := hal
              have HLF : fr = 0 ∨ lvF ls (fr - 1) < x + 1 := by
                rcases hlf with h | h | h
                · exact .inl h
                · exact .inr h
                · omega
              by_cases hlt : i < n
              · have hmid : midG ls n x d fr i = ((oF (lvF ls) n (x + 1 + 1) d i : Nat) : Int) := by unfold midG; rw [if_neg (by omega)]; rfl
                obtain ⟨k, hk⟩ : ∃ k, oF (lvF ls) n (x + 1 + 1) d i = k := ⟨_, rfl⟩
                have hkn : k < n := by rw [← hk]; exact oF_lt d (x + 1 + 1) i hlt
                have hkl : (x + 1 ≤ lvF ls k) ↔ x + 1 ≤ lvF ls i := by rw [← hk]; exact oF_lv d (x + 1 + 1) i (by omega)
                rw [hk] at hmid
                obtain ⟨_, hGe, _, _, hXo, _, _, _⟩ := hO.at i (by rw [listOf_len]; exact hlt)
                cases hGe
                rw [listOf_ith _ _ _ hlt, hmid] at hXo
                obtain ⟨G, o, rfl, hG, hcl⟩ := hd.at hbel k (by rw [ints_len, HL.out]; exact hkn)
                rw [ith_ints] at hcl
                obtain ⟨lk, hlk⟩ : ∃ lk, ls.getD k 0 = lk := ⟨_, rfl⟩
                rw [hlk] at hcl
                have hlx : (x + 1 ≤ lk) ↔ x + 1 ≤ lvF ls i := by
                  rw [← hkl]; unfold lvF; rw [hlk]; omega
                have gi0 : (0 : Int) ≤ (i : Int) := by omega
                have gi1 : (i : Int) < (n : Int) := by omega
                have gk0 : (0 : Int) ≤ (k : Int) := by omega
                have gk1 : (k : Int) < (n : Int) := by omega
                clear hO hbel hmid hk hkl hlk hal hlf
                by_cases hge : x + 1 ≤ lk
                · have hai := hlx.1 hge
                  have hgi : (X : Int) ≤ (lk : Int) := by have := HX.out; omega
                  clear hlx
                  go_wp2_with (fail)
                  go_roundw
                  case rel => exact ⟨i + 1, fr, by go_num, rfl, by omega, by omega, fun h => by omega, HLF.imp id .inl, fun q h1 h2 h3 => by
                    rcases Nat.lt_or_ge q i with h | h
                    · exact HAL q h1 h h3
                    · obtain rfl : q = i := by omega
                      exact hai, HO.out, HBE.out⟩
                  case measure => simp [intOf]; omega
                · have HRR0 : lvF ls i < x + 1 := by
                    rcases Nat.lt_or_ge (lvF ls i) (x + 1) with h | h
                    · exact h
                    · exact absurd (hlx.2 h) hge
                  have HR : i = n ∨ lvF ls i < x + 1 := .inr HRR0
                  have HRR : lvF ls i < x + 1 ∨ i + 1 = n + 1 := .inl HRR0
                  have hgi : ¬ (X : Int) ≤ (lk : Int) := by have := HX.out; omega
                  have gf0 : (0 : Int) ≤ (fr : Int) := by omega
                  have gf1 : (fr : Int) ≤ (i : Int) := by omega
                  have gf2 : (i : Int) ≤ (n : Int) := by omega
                  clear hlx hge hend
                  by_cases hnf : n = fr
                  · exact absurd hnf (by omega)
                  · have HTU := Lib.hid (turn_any w.heap.size fr (i - fr) (n - fr) w.heap.size n n (midG ls n x d fr) wr HO.out (by omega) hn (by omega))
                    rw [listOf_congr (fun p hp => midG_turn ls n x d fr i p hfi (by omega) hp HLF (fun q h1 h2 => HAL q h1 h2 (by omega)) HR)] at HTU
                    go_wp2_with (go_at_call 34; refine HTU.out.mono ?_; rintro e w2 ⟨rfl, hO2, hg2⟩)
                    have hbb : Below w.heap.size w w2 := HBE.out.grown hg2 HBE.out.size (fun k hk => by cases hk; exact Nat.le_refl _)
                    go_roundw
                    case rel => exact ⟨i + 1, i + 1, by go_num, by go_num, by omega, Nat.le_refl _, fun _ => by omega, .inr (by rw [Nat.add_sub_cancel]; exact HRR), fun q h1 h2 => by omega, hO2, hbb⟩
                    case measure => simp [intOf]; omega
              · have hie : i = n := by omega
                have HR : i = n ∨ lvF ls i < x + 1 := .inl hie
                have HRR : lvF ls i < x + 1 ∨ i + 1 = n + 1 := .inr (by omega)
                have gf0 : (0 : Int) ≤ (fr : Int) := by omega
                have gf1 : (fr : Int) ≤ (n : Int) := by omega
                have hie' : n = i := hie.symm
                have hni : ¬ (i : Int) < (n : Int) := by omega
                clear hO hbel hal hlf hend hlt
                subst hie'
                clear hni hie
                by_cases hnf : n = fr
                · have hO2 := HO.out
                  rw [listOf_congr (fun p hp => show midG ls n x d fr p = midG ls n x d (n + 1) p by rw [midG_end ls n x d fr p hp (by omega), midG_end ls n x d (n + 1) p hp (by omega)])] at hO2
                  have HO2 := Lib.hid hO2
                  clear hO2
                  subst hnf
                  go_wp2_with (go_at_call 34; refine (turn_nil _ _ _).mono ?_; rintro e w2 ⟨rfl, hw2⟩; subst hw2)
                  go_roundw
                  case rel => exact ⟨n + 1, n + 1, by go_num, by go_num, by omega, Nat.le_refl _, fun _ => by omega, .inr (.inr (by omega)), fun q h1 h2 => by omega, HO2.out, HBE.out⟩
                  case measure => first | (simp [intOf]; done) | (simp [intOf]; omega)
                · have HTU := Lib.hid (turn_any w.heap.size fr (n - fr) (n - fr) w.heap.size n n (midG ls n x d fr) wr HO.out (by omega) hn (by omega))
                  rw [listOf_congr (fun p hp => midG_turn ls n x d fr n p hfi (by omega) hp HLF (fun q h1 h2 => HAL q h1 h2 (by omega)) HR)] at HTU
                  go_wp2_with (go_at_call 34; refine HTU.out.mono ?_; rintro e w2 ⟨rfl, hO2, hg2⟩)
                  have hbb : Below w.heap.size w w2 := HBE.out.grown hg2 HBE.out.size (fun k hk => by cases hk; exact Nat.le_refl _)
                  go_roundw
                  case rel => exact ⟨n + 1, n + 1, by go_num, by go_num, by omega, Nat.le_refl _, fun _ => by omega, .inr (.inr (by omega)), fun q h1 h2 => by omega, hO2, hbb⟩
                  case measure => first | (simp [intOf]; done) | (simp [intOf]; omega)
end Go.Proofs.Ytbhhebheclfdlaa
