/- The law VisualBounds of layer 10: at any characters (at most 2097152) and any want it answers true, and nothing that was there changes. -/
import Derived.Test.YtbhhebheclfdlaaBoundsA
import Derived.Test.YtbhhebheclfdlaaWake
namespace Go.Proofs.Ytbhhebheclfdlaa
set_option linter.unusedVariables false
set_option linter.unusedSimpArgs false
open Go.RowKit

theorem vb_shape {k : IntKind} {e base cap : Nat} {w : World} {a : Option Addr} {out : List Int} (h : OutAt k e w base a cap out) :
    ((a = none ∧ cap = 0) ∨ ∃ G o, a = some ⟨G, o, none⟩) ∧ out.length ≤ cap ∧ cap ≤ 9223372036854775807 := by
  rcases h.2 with ⟨h1, h0⟩ | ⟨g, cap', cur, h1, hb, hg, hc, hm, _⟩
  · simp only [Value.slice.injEq] at h1
    obtain ⟨rfl, h2, rfl⟩ := h1
    exact ⟨.inl ⟨rfl, rfl⟩, by omega, by omega⟩
  · cases h1
    unfold maxLen at hm
    exact ⟨.inr ⟨_, _, rfl⟩, hc, hm⟩
set_option maxRecDepth 100000 in
set_option maxHeartbeats 6000000 in
theorem LawVB_any (a : Option Addr) (cs : List Int) (n c : Nat) (want : Int) (w : World) (hl : cs.length = n) (hc : Rd .i32 w a cs) (hn : n ≤ 2097152) (hnc : n ≤ c) (hcm : c ≤ 9223372036854775807) :
    Calls Try.prog 7 #[.slice a n c, .int .i8 want] w fun e w' => e = .returned (.bool true) ∧ Below w.heap.size w w' := by
  obtain ⟨R, row, b, hR, hb, hrow, hRl, hrl, hb1, hw1, hw2, hbd, hpl, hrw⟩ := bounds_all cs want n hl
  have HV := Lib.hid (VLevels_any a cs n c want w hl hc hn hnc hcm)
  unfold VLPost at HV
  rw [hR, hb] at HV
  have HRow := Lib.hid (fun la lc W (h1 : Rd .i32 W a cs) (h2 : Rd .u8 W la (ints R)) h3 h4 h5 => Row_any a la cs R n n c lc b 0 n W hl hRl h1 h2 hn hn h3 h4 h5)
  rw [hrow] at HRow
  unfold RowPost at HRow
  simp only at HRow
  rw [hrl] at HRow
  have HL := Lib.hid hl
  have HRL := Lib.hid hRl
  have HBD := Lib.hid hbd
  have HPL := Lib.hid hpl
  have HRW := Lib.hid hrw
  have HLL := Lib.hid hrl
  clear hl hRl hrl hR hb hrow hbd hpl hrw
  have hb01 : b = 0 ∨ b = 1 := by omega
  go_enter Try.func7, Try.ntmps7
  go_upto_region 2 with (go_at_call 25; refine HV.out.mono ?_; rintro e w1 ⟨la, lc, rfl, hll, hLO, hbel1⟩)
  go_cut [43] (fun v wx => v = .bool false ∧ wx = w1)
  case first =>
    have g1 : ¬ ((b : Int) > 1) := by omega
    by_cases e1 : want = 1
    · have hb0 := hw1 e1
      subst e1 hb0
      go_wp2_with (fail)
      go_meet
      exact ⟨by first | rfl | simp, rfl⟩
    · by_cases e2 : want = 2
      · have hb0 := hw2 e2
        subst e2 hb0
        go_wp2_with (fail)
        go_meet
        exact ⟨by first | rfl | simp, rfl⟩
      · have c1 : (want == 1) = false := by simpa using e1
        have c2 : (want == 2) = false := by simpa using e2
        go_wp2_with (fail)
        go_meet
        exact ⟨by first | rfl | simp, rfl⟩
  case rest =>
    obtain ⟨rfl, hwx⟩ := hcut
    have hwx' := hwx.symm
    clear hwx
    subst hwx'
    obtain ⟨hshape, hlc, hlm⟩ := vb_shape hLO
    rw [ints_len, hll] at hlc
    have HLO := Lib.hid hLO
    have HB1 := Lib.hid hbel1
    clear hbel1 hLO hw1 hw2
    go_upto_block 0 with (fail)
    go_cut [7, 8, 9] (fun u7 _ _ wx => ∃ pl : Bool, u7 = .bool pl ∧ (pl = true → ∀ p, p < n → R.getD p 0 = 0) ∧ Below w1.heap.size w1 wx)
    case first =>
      go_wp2_with (fail)
      go_loopw [7, 8, 9] (fun u7 u8 _ wx => ∃ (i : Nat) (pl : Bool), i ≤ n ∧ u8 = .int .i64 i ∧ u7 = .bool pl ∧ (pl = true → b = 0 ∧ ∀ p, p < i → Qk (dirI (ith cs p))) ∧ Below w1.heap.size w1 wx) (fun _ u8 _ _ => n - (intOf u8).toNat)
      case atStart =>
        rcases hb01 with e | e
        · subst e; exact ⟨0, true, by omega, rfl, rfl, fun _ => ⟨rfl, fun p hp => by omega⟩, Below.refl _ _⟩
        · subst e; exact ⟨0, false, by omega, rfl, rfl, fun h => by simp at h, Below.refl _ _⟩
      case round =>
        obtain ⟨i, pl, hi, rfl, rfl, hpl, hbel⟩ := hrel
        by_cases hin : i < n
        · obtain ⟨G, o, rfl, _, hcc⟩ := hc.at (HB1.out.trans (hbel.mono HB1.out.size)) i (by rw [HL.out]; exact hin)
          obtain ⟨y, hy⟩ : ∃ y, ith cs i = y := ⟨_, rfl⟩
          have hq := HLO.out.keep hbel
          obtain ⟨GR, rfl, _, _, hcr, _⟩ := hq.at i (by rw [ints_len, hll]; exact hin)
          rw [ith_ints] at hcr
          obtain ⟨r, hr⟩ : ∃ r, R.getD i 0 = r := ⟨_, rfl⟩
          obtain ⟨hr1, hr2, hr3⟩ := HBD.out i hin
          rw [hr] at hcr hr1 hr2 hr3
          rw [hy] at hcc hr3
          obtain ⟨d, hd⟩ : ∃ d, dirI y = d := ⟨_, rfl⟩
          rw [hd] at hr3
          have hDir : Hid (∀ W, Calls Try.prog 26 #[.int .i32 y] W fun e w' => e = .returned (.int .i8 d) ∧ Below W.heap.size W w') := Lib.hid fun W => by rw [← hd]; exact Dir_any y W
          have hnext : ∀ pl' : Bool, (pl' = true → pl = true ∧ Qk d) → (pl' = true → b = 0 ∧ ∀ p, p < i + 1 → Qk (dirI (ith cs p))) := fun pl' h h' => by
            refine ⟨(hpl (h h').1).1, fun p hp => ?_⟩
            rcases Nat.lt_or_ge p i with h2 | h2
            · exact (hpl (h h').1).2 p h2
            · obtain rfl : p = i := by omega
              rw [hy, hd]; exact (h h').2
          have HN := Lib.hid hnext
          have HPL2 := Lib.hid hpl
          have g0 : (0 : Int) ≤ (i : Int) := by omega
          have g1 : (i : Int) < (n : Int) := by omega
          clear hy hd hpl hq hnext hr
          go_upto_region 9 with (go_at_call 26; refine (hDir.out _).mono ?_; rintro e w2 ⟨rfl, hw2⟩)
          have hcr2 := cell_bl hw2 (cell_lt hcr) hcr
          have hbel2 := hbel.trans (hw2.mono hbel.size)
          clear hcr hcc hw2
          go_cut [7] (fun v wx => ∃ pl' : Bool, v = .bool pl' ∧ (pl' = true → pl = true ∧ Qk d) ∧ wx = w2)
          case first =>
            cases pl with
            | false =>
              go_wp2_with (fail)
              go_meet
              exact ⟨false, rfl, fun h => by simp at h, rfl⟩
            | true =>
              by_cases e0 : d = 0
              · subst e0
                go_wp2_with (fail)
                go_meet
                exact ⟨true, rfl, fun _ => ⟨by first | rfl | trivial, .inl rfl⟩, rfl⟩
              have c0 : (d == 0) = false := by simpa using e0
              by_cases e1 : d = 13
              · subst e1
                go_wp2_with (fail)
                go_meet
                exact ⟨true, rfl, fun _ => ⟨by first | rfl | trivial, by unfold Qk; omega⟩, rfl⟩
              have c1 : (d == 13) = false := by simpa using e1
              by_cases e2 : d = 12
              · subst e2
                go_wp2_with (fail)
                go_meet
                exact ⟨true, rfl, fun _ => ⟨by first | rfl | trivial, by unfold Qk; omega⟩, rfl⟩
              have c2 : (d == 12) = false := by simpa using e2
              by_cases e3 : d = 7
              · subst e3
                go_wp2_with (fail)
                go_meet
                exact ⟨true, rfl, fun _ => ⟨by first | rfl | trivial, by unfold Qk; omega⟩, rfl⟩
              have c3 : (d == 7) = false := by simpa using e3
              by_cases e4 : d = 10
              · subst e4
                go_wp2_with (fail)
                go_meet
                exact ⟨true, rfl, fun _ => ⟨by first | rfl | trivial, by unfold Qk; omega⟩, rfl⟩
              have c4 : (d == 10) = false := by simpa using e4
              by_cases e5 : d = 11
              · subst e5
                go_wp2_with (fail)
                go_meet
                exact ⟨true, rfl, fun _ => ⟨by first | rfl | trivial, by unfold Qk; omega⟩, rfl⟩
              have c5 : (d == 11) = false := by simpa using e5
              go_wp2_with (fail)
              go_meet
              exact ⟨false, rfl, fun h => by simp at h, rfl⟩
          case rest =>
            obtain ⟨pl', rfl, hpl', hwx⟩ := hcut
            have hwx' := hwx.symm
            clear hwx
            subst hwx'
            have hpl2 := HN.out pl' hpl'
            have HP3 := Lib.hid hpl2
            clear hpl2 hpl'
            have g3 : ¬ ((r : Int) < (b : Int)) := by omega
            have g4 : ¬ ((r : Int) > 126) := by omega
            by_cases e4 : d = 10
            · obtain rfl : r = b := hr3 e4
              subst e4
              go_wp2_with (fail)
              go_roundw
              case rel => exact ⟨i + 1, pl', by omega, by go_num, rfl, HP3.out, hbel2⟩
              case measure => simp [intOf]; omega
            · have c4 : (d == 10) = false := by simpa using e4
              go_wp2_with (fail)
              go_roundw
              case rel => exact ⟨i + 1, pl', by omega, by go_num, rfl, HP3.out, hbel2⟩
              case measure => simp [intOf]; omega
        · obtain rfl : i = n := by omega
          go_wp2_with (fail)
          go_meet
          exact ⟨pl, rfl, fun h => HPL.out (hpl h).1 (hpl h).2, hbel⟩
    case rest =>
      obtain ⟨pl, rfl, hpl, hbel⟩ := hcut
      obtain ⟨w2, hw2⟩ : ∃ w2, wc = w2 := ⟨_, rfl⟩
      subst hw2
      have hLO2 := HLO.out.keep hbel
      have hbw2 := HB1.out.trans (hbel.mono HB1.out.size)
      have HR2 := Lib.hid (HRow.out la lc wc (hc.below hbw2) hLO2.rd hlc hlm hshape)
      have HLO2 := Lib.hid hLO2
      have HB2 := Lib.hid hbw2
      have HPL3 := Lib.hid hpl
      clear hpl hbw2 hLO2 hbel hshape HLO HPL HB1
      go_upto_region 13 with (go_at_call 13; refine HR2.out.mono ?_; rintro e w3 ⟨hb3, ra, rc, rfl, hRO⟩)
      have hb03 := HB2.out.trans (hb3.mono HB2.out.size)
      have HB3 := Lib.hid hb03
      have HLO3 := Lib.hid (HLO2.out.keep hb3)
      have HRO := Lib.hid hRO
      clear hb03 hb3 hRO HLO2 HR2
      go_wp2_with (fail)
      go_loopw [11, 12] (fun u11 _ wx => ∃ i : Nat, i ≤ n ∧ u11 = .int .i64 i ∧ Below w3.heap.size w3 wx) (fun u11 _ _ => n - (intOf u11).toNat)
      case atStart => exact ⟨0, by omega, rfl, Below.refl _ _⟩
      case round =>
        obtain ⟨i, hi, rfl, hbel⟩ := hrel
        by_cases hin : i < n
        · obtain ⟨G, o, rfl, _, hcc⟩ := hc.at (HB3.out.trans (hbel.mono HB3.out.size)) i (by rw [HL.out]; exact hin)
          obtain ⟨y, hy⟩ : ∃ y, ith cs i = y := ⟨_, rfl⟩
          obtain ⟨GR, rfl, _, _, hcr, _⟩ := (HLO3.out.keep hbel).at i (by rw [ints_len, hll]; exact hin)
          obtain ⟨GQ, rfl, _, _, hcq, _⟩ := (HRO.out.keep hbel).at i (by rw [ints_len, HLL.out]; exact hin)
          rw [ith_ints] at hcr hcq
          obtain ⟨r, hr⟩ : ∃ r, R.getD i 0 = r := ⟨_, rfl⟩
          obtain ⟨q, hqq⟩ : ∃ q, row.getD i 0 = q := ⟨_, rfl⟩
          obtain ⟨hq1, hq2⟩ := HRW.out i hin
          rw [hr] at hcr hq1
          rw [hqq] at hcq hq1 hq2
          rw [hy] at hcc hq2
          have hp0 : pl = true → r = 0 := fun h => by rw [← hr]; exact HPL3.out h i hin
          obtain ⟨d, hd⟩ : ∃ d, dirI y = d := ⟨_, rfl⟩
          rw [hd] at hq2
          have hDir : Hid (∀ W, Calls Try.prog 26 #[.int .i32 y] W fun e w' => e = .returned (.int .i8 d) ∧ Below W.heap.size W w') := Lib.hid fun W => by rw [← hd]; exact Dir_any y W
          have g0 : (0 : Int) ≤ (i : Int) := by omega
          have g1 : (i : Int) < (n : Int) := by omega
          clear hy hd hr hqq
          go_upto_region 19 with (go_at_call 26; refine (hDir.out _).mono ?_; rintro e w4 ⟨rfl, hw4⟩)
          have hcr2 := cell_bl hw4 (cell_lt hcr) hcr
          have hcq2 := cell_bl hw4 (cell_lt hcq) hcq
          have hbel2 := hbel.trans (hw4.mono hbel.size)
          clear hcr hcq hcc hw4 hbel
          have hcases : (q = b ∧ r = b) ∨ (q = b ∧ r ≠ b) ∨ (q ≠ b ∧ q = r ∧ d ≠ 10 ∧ d ≠ 11) := by
            by_cases e : q = b
            · by_cases e2 : r = b
              · exact .inl ⟨e, e2⟩
              · exact .inr (.inl ⟨e, e2⟩)
            · exact .inr (.inr ⟨e, hq1.resolve_right e, fun h => e (hq2 (.inr h)), fun h => e (hq2 (.inl h))⟩)
          have h0 : pl = true → ((r : Int) != 0) = false := fun h => by rw [hp0 h]; rfl
          have hZ : pl = false ∨ (pl = true ∧ ((r : Int) != 0) = false) := by cases pl; exact .inl rfl; exact .inr ⟨rfl, h0 rfl⟩
          clear hp0 h0 hq1 hq2 HV HRow HBD HRW hb01 hDir hc hb1 hll hlc hlm HL HRL HLL HB2
          go_cut [171] (fun v wx => v = .bool false ∧ ∃ k, wx = w4.drewN k)
          case first =>
            rcases hZ with rfl | ⟨rfl, hz⟩
            · rcases hcases with ⟨rfl, rfl⟩ | ⟨rfl, hne⟩ | ⟨hqb, rfl, h10, h11⟩
              · skip
                by_cases e1 : d = 10
                · subst e1
                  go_quiet (fail)
                  go_wp2_with (fail)
                  go_meet
                  exact ⟨by first | rfl | simp, _, rfl⟩
                have c1 : (d == 10) = false := by simpa using e1
                by_cases e2 : d = 11
                · subst e2
                  go_quiet (fail)
                  go_wp2_with (fail)
                  go_meet
                  exact ⟨by first | rfl | simp, _, rfl⟩
                have c2 : (d == 11) = false := by simpa using e2
                go_quiet (fail)
                go_wp2_with (fail)
                go_meet
                exact ⟨by first | rfl | simp, _, rfl⟩
              · have c0 : ((q : Int) != (r : Int)) = true := by rw [bne_iff_ne]; omega
                by_cases e1 : d = 10
                · subst e1
                  go_quiet (fail)
                  go_wp2_with (fail)
                  go_meet
                  exact ⟨by first | rfl | simp, _, rfl⟩
                have c1 : (d == 10) = false := by simpa using e1
                by_cases e2 : d = 11
                · subst e2
                  go_quiet (fail)
                  go_wp2_with (fail)
                  go_meet
                  exact ⟨by first | rfl | simp, _, rfl⟩
                have c2 : (d == 11) = false := by simpa using e2
                go_quiet (fail)
                go_wp2_with (fail)
                go_meet
                exact ⟨by first | rfl | simp, _, rfl⟩
              · have c1 : (d == 10) = false := by simpa using h10
                have c2 : (d == 11) = false := by simpa using h11
                go_quiet (fail)
                go_wp2_with (fail)
                go_meet
                exact ⟨by first | rfl | simp, _, rfl⟩
            · rcases hcases with ⟨rfl, rfl⟩ | ⟨rfl, hne⟩ | ⟨hqb, rfl, h10, h11⟩
              · skip
                by_cases e1 : d = 10
                · subst e1
                  go_quiet (fail)
                  go_wp2_with (fail)
                  go_meet
                  exact ⟨by first | rfl | simp, _, rfl⟩
                have c1 : (d == 10) = false := by simpa using e1
                by_cases e2 : d = 11
                · subst e2
                  go_quiet (fail)
                  go_wp2_with (fail)
                  go_meet
                  exact ⟨by first | rfl | simp, _, rfl⟩
                have c2 : (d == 11) = false := by simpa using e2
                go_quiet (fail)
                go_wp2_with (fail)
                go_meet
                exact ⟨by first | rfl | simp, _, rfl⟩
              · have c0 : ((q : Int) != (r : Int)) = true := by rw [bne_iff_ne]; omega
                by_cases e1 : d = 10
                · subst e1
                  go_quiet (fail)
                  go_wp2_with (fail)
                  go_meet
                  exact ⟨by first | rfl | simp, _, rfl⟩
                have c1 : (d == 10) = false := by simpa using e1
                by_cases e2 : d = 11
                · subst e2
                  go_quiet (fail)
                  go_wp2_with (fail)
                  go_meet
                  exact ⟨by first | rfl | simp, _, rfl⟩
                have c2 : (d == 11) = false := by simpa using e2
                go_quiet (fail)
                go_wp2_with (fail)
                go_meet
                exact ⟨by first | rfl | simp, _, rfl⟩
              · have c1 : (d == 10) = false := by simpa using h10
                have c2 : (d == 11) = false := by simpa using h11
                go_quiet (fail)
                go_wp2_with (fail)
                go_meet
                exact ⟨by first | rfl | simp, _, rfl⟩
          case rest =>
            obtain ⟨rfl, k, rfl⟩ := hcut
            go_wp2_with (fail)
            go_roundw
            case rel => exact ⟨i + 1, by omega, by go_num, bl_drewN hbel2 _⟩
            case measure => simp [intOf]; omega
        · obtain rfl : i = n := by omega
          go_wp2_with (go_at_call 16; refine (wakes_any _).mono ?_; rintro e w6 ⟨rfl, hb6⟩)
          go_ret
          exact ⟨rfl, (HB3.out.trans (hbel.mono HB3.out.size)).trans (hb6.mono (HB3.out.trans (hbel.mono HB3.out.size)).size)⟩
end Go.Proofs.Ytbhhebheclfdlaa
