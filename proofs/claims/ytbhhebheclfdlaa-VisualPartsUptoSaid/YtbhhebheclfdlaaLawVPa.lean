/- The law VisualParts of layer 10: at any characters (at most 2097152), any want and number it answers true, and nothing that was there changes. -/
import Derived.Test.YtbhhebheclfdlaaPartsA
import Derived.Test.YtbhhebheclfdlaaWake
namespace Go.Proofs.Ytbhhebheclfdlaa
set_option linter.unusedVariables false
set_option linter.unusedSimpArgs false
open Go.RowKit

theorem str_append (a b : List Int) : strOfNums (a ++ b) = strOfNums a ++ strOfNums b := by
  apply ByteArray.ext
  rw [ByteArray.data_append]
  unfold strOfNums
  simp
/-- an own list of levels as a string -/
theorem conv_any {w : World} {base cap n : Nat} {a : Option Addr} {xs : List Int} (h : OutAt .u8 5 w base a cap xs) (hn : xs.length = n) :
    (convert 23 9 (.slice a n cap)).run Try.prog w = .ok (.string (strOfNums xs)) w := by
  subst hn
  rcases h.2 with ⟨h1, h0⟩ | ⟨g, cap', cur, h1, _⟩
  · simp only [Value.slice.injEq] at h1
    obtain ⟨rfl, h2, rfl⟩ := h1
    have hx : xs = [] := List.eq_nil_of_length_eq_zero h2
    subst hx
    exact Lib.run_convert_nil_bytes w _ _ _ _ Try.underlying23 Try.underlying5 Try.underlying9
  · cases h1
    refine run_convert_bytes_arg w _ _ Try.underlying23 Try.underlying5 g 0 xs.length cap xs rfl (fun i hi => ?_) _ Try.underlying9
    obtain ⟨G, e, _, _, hc, _⟩ := OutAt.at h i hi
    cases e
    rw [Nat.zero_add]
    exact hc
set_option maxRecDepth 100000 in
set_option maxHeartbeats 1000000 in
theorem LawVPa_any (a : Option Addr) (cs : List Int) (n c : Nat) (want k : Int) (w : World) (hl : cs.length = n) (hc : Rd .i32 w a cs) (hn : n ≤ 2097152) (hnc : n ≤ c) (hcm : c ≤ 9223372036854775807) (ha : (∃ G o, a = some ⟨G, o, none⟩) ∨ c = 0) :
    Calls Try.prog 8 #[.slice a n c, .int .i8 want, .int .i64 k] w fun e w' => e = .returned (.bool true) ∧ Below w.heap.size w w' := by
  have HL := Lib.hid hl
  go_enter Try.func8, Try.ntmps8
  go_upto_block 0 with (fail)
  go_cut [7, 8] (fun u7 u8 wx => ∃ p : Nat, u7 = .int .i64 (p : Nat) ∧ p ≤ n ∧ (p = n ∨ p = 0 ∨ dirI (ith cs (p - 1)) = 10) ∧ Below w.heap.size w wx)
  case first =>
    go_wp2_with (fail)
    go_loopw [7, 8] (fun u7 u8 wx => ∃ p m : Nat, u7 = .int .i64 (p : Nat) ∧ u8 = .int .i64 (m : Nat) ∧ p ≤ n ∧ m ≤ p ∧ ((m : Int) ≤ k ∨ p = 0 ∨ dirI (ith cs (p - 1)) = 10) ∧ Below w.heap.size w wx) (fun u7 _ _ => n - (intOf u7).toNat)
    case atStart => exact ⟨0, 0, rfl, rfl, by omega, by omega, .inr (.inl rfl), Below.refl _ _⟩
    case round =>
      obtain ⟨p, m, rfl, rfl, hp, hm, hb, hbel⟩ := hrel
      by_cases hpn : p < n
      · by_cases hmk : (m : Int) ≤ k
        · obtain ⟨G, o, rfl, _, hcc⟩ := hc.at hbel p (by rw [hl]; exact hpn)
          obtain ⟨y, hy⟩ : ∃ y, ith cs p = y := ⟨_, rfl⟩
          rw [hy] at hcc
          obtain ⟨d, hd⟩ : ∃ d, dirI y = d := ⟨_, rfl⟩
          have hDir : Hid (∀ W, Calls Try.prog 26 #[.int .i32 y] W fun e w' => e = .returned (.int .i8 d) ∧ Below W.heap.size W w') := Lib.hid fun W => by rw [← hd]; exact Dir_any y W
          have hyd : dirI (ith cs (p + 1 - 1)) = d := by rw [Nat.add_sub_cancel, hy, hd]
          have HYD := Lib.hid hyd
          have g0 : (0 : Int) ≤ (p : Int) := by omega
          have g1 : (p : Int) < (n : Int) := by omega
          clear hy hd hyd hl
          by_cases h10 : d = 10
          · subst h10
            go_wp2_with (go_at_call 26; refine (hDir.out _).mono ?_; rintro e w2 ⟨rfl, hw2⟩)
            go_roundw
            case rel => exact ⟨p + 1, m + 1, by go_num, by go_num, by omega, by omega, .inr (.inr HYD.out), hbel.trans (hw2.mono hbel.size)⟩
            case measure => simp [intOf]; omega
          · have c10 : (d == 10) = false := by simpa using h10
            go_wp2_with (go_at_call 26; refine (hDir.out _).mono ?_; rintro e w2 ⟨rfl, hw2⟩)
            go_roundw
            case rel => exact ⟨p + 1, m, by go_num, rfl, by omega, by omega, .inl hmk, hbel.trans (hw2.mono hbel.size)⟩
            case measure => simp [intOf]; omega
        · go_wp2_with (fail)
          go_meet
          exact ⟨p, rfl, hp, hb.elim (fun h => absurd h (by omega)) .inr, hbel⟩
      · have hpe : p = n := by omega
        go_wp2_with (fail)
        go_meet
        exact ⟨p, rfl, hp, .inl hpe, hbel⟩
  case rest =>
    obtain ⟨p, rfl, hpn, hborder, hbel⟩ := hcut
    obtain ⟨V, hV⟩ : ∃ V, V = wc := ⟨_, rfl⟩
    subst hV
    obtain ⟨bs, hbs⟩ : ∃ bs, (visualI cs want).2 = bs := ⟨_, rfl⟩
    obtain ⟨as', has⟩ : ∃ as' : Int, as' = if (visualI cs want).2 = 1 then 2 else 1 := ⟨_, rfl⟩
    have hsplit := visual_split cs want p (by rw [hl]; exact hpn) (by rw [hl]; exact hborder) as' has
    rw [hbs] at has
    have HV := Lib.hid (VLevels_any a cs n c want V hl (hc.below hbel) hn hnc hcm)
    unfold VLPost at HV
    rw [hbs] at HV
    obtain ⟨lv, hlv⟩ : ∃ lv, (visualI cs want).1 = lv := ⟨_, rfl⟩
    obtain ⟨lx, hlx⟩ : ∃ lx, (visualI (cs.take p) as').1 = lx := ⟨_, rfl⟩
    obtain ⟨ly, hly⟩ : ∃ ly, (visualI (cs.drop p) as').1 = ly := ⟨_, rfl⟩
    rw [hlv] at HV
    rw [hlv, hlx, hly] at hsplit
    have HX := Lib.hid (fun W (hb : Below w.heap.size w W) => VLevels_any a (cs.take p) p c as' W (by rw [List.length_take, hl]; omega) (rd_take (hc.below hb) p) (by omega) (by omega) hcm)
    have HY := Lib.hid (fun ad c' W (hb : Below w.heap.size w W) (h : Rd .i32 w ad (cs.drop p)) (h2 : n - p ≤ c') (h3 : c' ≤ 9223372036854775807) => VLevels_any ad (cs.drop p) (n - p) c' as' W (by rw [List.length_drop, hl]) (h.below hb) (by omega) h2 h3)
    unfold VLPost at HX HY
    rw [hlx] at HX
    rw [hly] at HY
    have HS : Hid (strOfNums (ints lv) = strOfNums (ints lx) ++ strOfNums (ints ly)) := Lib.hid (by rw [hsplit, ints_append, str_append])
    have HAS := Lib.hid has
    have HBEL := Lib.hid hbel
    clear hsplit hbs hlv hlx hly has hbel hborder
    go_upto_region 8 with (go_at_call 25; refine HV.out.mono ?_; rintro e w1 ⟨la, lc, rfl, hll, hLO, hb1⟩)
    have hbw1 : Below w.heap.size w w1 := HBEL.out.trans (hb1.mono HBEL.out.size)
    have HB1 := Lib.hid hbw1
    have HLO := Lib.hid hLO
    clear hbw1 hb1 hLO
    go_upto_region 9 with (fail)
    go_upto_if 42 with (fail)
    go_cut [11] (fun v wx => v = .int .i8 as' ∧ wx = w1)
    case first =>
      by_cases h1 : bs = 1
      · subst h1
        have hA := HAS.out
        rw [if_pos rfl] at hA
        have HA := Lib.hid hA
        clear hA
        go_wp2_with (fail)
        go_meet
        exact ⟨by rw [HA.out], rfl⟩
      · have hA := HAS.out
        rw [if_neg h1] at hA
        have HA := Lib.hid hA
        have hb : (bs == 1) = false := by simpa using h1
        clear hA h1
        go_wp2_with (fail)
        go_meet
        exact ⟨by rw [HA.out], rfl⟩
    case rest =>
      obtain ⟨rfl, hwx⟩ := hcut
      have hwx' := hwx.symm
      clear hwx
      subst hwx'
      have gp0 : (0 : Int) ≤ (p : Int) := by omega
      have gp1 : (p : Int) ≤ (c : Int) := by omega
      have gp2 : (p : Int) ≤ (n : Int) := by omega
      go_upto_region 12 with (go_at_call 25; refine (HX.out _ HB1.out).mono ?_; rintro e w2 ⟨xa, xc, rfl, hxl, hXO, hb2⟩)
      have hbw2 : Below w.heap.size w w2 := HB1.out.trans (hb2.mono HB1.out.size)
      have HB2 := Lib.hid hbw2
      have HLO2 := Lib.hid (HLO.out.keep hb2)
      have HXO := Lib.hid hXO
      clear hbw2 hb2 hXO HLO
      go_cut [14, 15] (fun v14 _ wx => ∃ ya yc, v14 = .slice ya (n - p) yc ∧ ly.length = n - p ∧ OutAt .u8 5 wx w2.heap.size ya yc (ints ly) ∧ Below w2.heap.size w2 wx)
      case first =>
        by_cases hcp : c = p
        · have hnp : n = p := by omega
          subst hcp
          subst hnp
          have hcal := HY.out a 0 w2 HB2.out (.inl (by rw [List.drop_eq_nil_iff, HL.out]; exact Nat.le_refl _)) (by omega) (by omega)
          rw [Nat.sub_self] at hcal
          have HC := Lib.hid hcal
          clear hcal
          go_wp2_with (go_at_call 25; refine HC.out.mono ?_; rintro e w3 ⟨ya, yc, rfl, hyl, hYO, hb3⟩)
          go_meet
          exact ⟨ya, yc, by rw [Nat.sub_self], by rw [Nat.sub_self]; exact hyl, hYO, hb3⟩
        · rcases ha with ⟨G, o, rfl⟩ | h0
          · have HC := Lib.hid (HY.out (some ⟨G, o + p, none⟩) (c - p) w2 HB2.out (rd_drop hc p) (by omega) (by omega))
            go_wp2_with (go_at_call 25; refine HC.out.mono ?_; rintro e w3 ⟨ya, yc, rfl, hyl, hYO, hb3⟩)
            go_meet
            exact ⟨ya, yc, rfl, hyl, hYO, hb3⟩
          · exact absurd (show c = p by omega) hcp
      case rest =>
        obtain ⟨ya, yc, rfl, hyl, hYO, hb3⟩ := hcut
        have hc1 := conv_any (n := n) (HLO2.out.keep hb3) (by rw [ints_len]; exact hll)
        have hc2 := conv_any (n := p) (HXO.out.keep hb3) (by rw [ints_len]; exact hxl)
        have hc3 := conv_any (n := n - p) hYO (by rw [ints_len]; exact hyl)
        have HB3 := Lib.hid (HB2.out.trans (hb3.mono HB2.out.size))
        rw [HS.out] at hc1
        have hz2 : (strOfNums (ints lx)).size + (strOfNums (ints ly)).size ≤ 9223372036854775807 := by rw [strOfNums_size, strOfNums_size, ints_len, ints_len, hyl]; have := hxl; omega
        generalize strOfNums (ints lx) = sx at hc1 hc2 hz2
        generalize strOfNums (ints ly) = sy at hc1 hc3 hz2
        have hz1 : sx.size + sy.size ≤ maxLen := by unfold maxLen; exact hz2
        clear HXO hYO HLO2 hb3
        go_wp2_with (go_at_call 16; refine (wakes_any _).mono ?_; rintro e w6 ⟨rfl, hb6⟩)
        go_ret
        exact ⟨ret_b (by first | rfl | simp), HB3.out.trans (hb6.mono HB3.out.size)⟩
end Go.Proofs.Ytbhhebheclfdlaa
