/- Contract of beside: of the places' order as it is, the law's test of stretches answers true. -/
import Derived.Test.YtbhhebheclfdlaaTurnA
namespace Go.Proofs.Ytbhhebheclfdlaa
set_option linter.unusedVariables false
set_option linter.unusedSimpArgs false
open Go.RowKit

set_option maxHeartbeats 400000 in
theorem level_any (x : Nat) (w : World) (hx : x ≤ 255) : Calls Try.prog 36 #[.int .u8 x] w fun e w' => e = .returned (.int .i64 ((min x 126 : Nat) : Int)) ∧ w = w' := by
  obtain ⟨m, hm⟩ : ∃ m, min x 126 = m := ⟨_, rfl⟩
  have hmi : min (x : Int) 126 = (m : Int) := by omega
  rw [hm]
  have hm2 : (m : Int) ≤ 126 := by omega
  clear hm
  go_enter Try.func36, Try.ntmps36
  go_wp2_with (fail)
  go_ret
  exact ⟨rfl, rfl⟩
/-- what the loop over a stretch has found behind p -/
structure BesRel (ls : List Nat) (n s x p : Nat) (low high : Int) (alike : Bool) : Prop where
  sp : s ≤ p
  pn : p ≤ n
  all : ∀ q, s ≤ q → q < p → x ≤ lvF ls q
  lo1 : ∀ q, s ≤ q → q < p → low ≤ (seeN ls n q : Int)
  lo2 : low = n ∨ ∃ q, s ≤ q ∧ q < p ∧ low = (seeN ls n q : Int)
  hi1 : ∀ q, s ≤ q → q < p → (seeN ls n q : Int) ≤ high
  hi2 : high = -1 ∨ ∃ q, s ≤ q ∧ q < p ∧ high = (seeN ls n q : Int)
  al : alike = true → ∀ q, s ≤ q → q < p → lvF ls q = x
theorem BesRel.start (ls : List Nat) (n s x : Nat) (h : s ≤ n) : BesRel ls n s x s n (-1) true :=
  ⟨Nat.le_refl _, h, fun q h1 h2 => by omega, fun q h1 h2 => by omega, .inl rfl, fun q h1 h2 => by omega, .inl rfl, fun _ q h1 h2 => by omega⟩
theorem BesRel.next {ls : List Nat} {n s x p : Nat} {low high : Int} {alike : Bool} (h : BesRel ls n s x p low high alike) (hp : p < n) (hx : x ≤ lvF ls p) :
    BesRel ls n s x (p + 1) (min low (seeN ls n p : Int)) (max high (seeN ls n p : Int)) (alike && decide (lvF ls p = x)) := by
  have hsp := h.sp
  have key : ∀ q, q < p + 1 → q < p ∨ q = p := fun q hq => by omega
  refine ⟨by omega, by omega, fun q h1 h2 => ?_, fun q h1 h2 => ?_, ?_, fun q h1 h2 => ?_, ?_, fun ha q h1 h2 => ?_⟩
  · rcases key q h2 with h3 | rfl
    · exact h.all q h1 h3
    · exact hx
  · rcases key q h2 with h3 | rfl
    · have := h.lo1 q h1 h3; omega
    · omega
  · rcases Int.le_total low (seeN ls n p : Int) with h3 | h3
    · rw [Int.min_eq_left h3]
      rcases h.lo2 with h4 | ⟨q, h4, h5, h6⟩
      · exact .inl h4
      · exact .inr ⟨q, h4, by omega, h6⟩
    · rw [Int.min_eq_right h3]
      exact .inr ⟨p, hsp, by omega, rfl⟩
  · rcases key q h2 with h3 | rfl
    · have := h.hi1 q h1 h3; omega
    · omega
  · rcases Int.le_total high (seeN ls n p : Int) with h3 | h3
    · rw [Int.max_eq_right h3]
      exact .inr ⟨p, hsp, by omega, rfl⟩
    · rw [Int.max_eq_left h3]
      rcases h.hi2 with h4 | ⟨q, h4, h5, h6⟩
      · exact .inl h4
      · exact .inr ⟨q, h4, by omega, h6⟩
  · rw [Bool.and_eq_true, decide_eq_true_eq] at ha
    rcases key q h2 with h3 | rfl
    · exact h.al ha.1 q h1 h3
    · exact ha.2
theorem BesRel.span {ls : List Nat} {n s x p : Nat} {low high : Int} {alike : Bool} (h : BesRel ls n s x p low high alike) (hs : Str (lvF ls) n x s p) (hsp : s < p) : high - low = (p : Int) - 1 - s := by
  obtain ⟨A, a1, ⟨k1, b1, b2, b3⟩, ⟨k2, c1, c2, c3⟩⟩ := see_span ls n x s p hs hsp
  have l1 := h.lo1 k1 b1 b2
  have l2 := h.hi1 k2 c1 c2
  have hn : ∀ q, q < p → (seeN ls n q : Int) < n := fun q hq => by
    have : seeN ls n q < n := tF_lt _ _ _ (by have := h.pn; omega)
    omega
  rcases h.lo2 with h4 | ⟨q, h4, h5, h6⟩
  · have := hn k1 b2; omega
  · have := a1 q h4 h5
    rcases h.hi2 with h7 | ⟨r, h7, h8, h9⟩
    · omega
    · have := a1 r h7 h8
      omega
set_option maxRecDepth 100000 in
set_option maxHeartbeats 1000000 in
theorem beside_any (a t : Option Addr) (ls : List Nat) (n c tc : Nat) (w : World) (hl : ls.length = n) (hd : Rd .u8 w a (ints ls)) (hb : ∀ l ∈ ls, l ≤ 255) (ht : Rd .i64 w t (listOf n (fun p => (seeN ls n p : Int)))) (hn : n ≤ 2097152) :
    Calls Try.prog 24 #[.slice a n c, .slice t n tc] w fun e w' => e = .returned (.bool true) ∧ Below w.heap.size w w' := by
  have HL := Lib.hid hl
  have HLV : Hid (∀ (i : Nat) (W : World), Calls Try.prog 36 #[.int .u8 (ls.getD i 0 : Nat)] W fun e w' => e = .returned (.int .i64 (lvF ls i : Nat)) ∧ W = w') := Lib.hid fun i W => by
    refine level_any (ls.getD i 0) W ?_
    rw [List.getD_eq_getElem?_getD]
    cases hx : ls[i]? with
    | none => simp
    | some y => exact hb y (List.mem_of_getElem? hx)
  have HLC := Lib.hid (fun W (hbw : Below w.heap.size w W) i (hi : i < n) => (hd.below hbw).at (Below.refl _ _) i (by rw [ints_len, hl]; exact hi))
  have HTC := Lib.hid (fun W (hbw : Below w.heap.size w W) i (hi : i < n) => (ht.below hbw).at (Below.refl _ _) i (by rw [listOf_len]; exact hi))
  clear hl hb
  go_enter Try.func24, Try.ntmps24
  go_wp2_with (fail)
  go_loopw [5] (fun u wx => ∃ i : Nat, i ≤ n ∧ u = .int .i64 i ∧ Below w.heap.size w wx) (fun u _ => n - (intOf u).toNat)
  case atStart => exact ⟨0, by omega, rfl, Below.refl _ _⟩
  case round =>
    obtain ⟨i, hi, rfl, hbel⟩ := hrel
    by_cases hlt : i < n
    · by_cases h300 : (i : Int) < 300
      · obtain ⟨G, o, rfl, hG, hc⟩ := HLC.out wr hbel i hlt
        rw [ith_ints] at hc
        obtain ⟨x, hx⟩ : ∃ x, lvF ls i = x := ⟨_, rfl⟩
        have HLI := Lib.hid (HLV.out i)
        rw [hx] at HLI
        have HX := Lib.hid hx
        have gi0 : (0 : Int) ≤ (i : Int) := by omega
        have gi1 : (i : Int) < (n : Int) := by omega
        obtain ⟨v, hv⟩ : ∃ v, ls.getD i 0 = v := ⟨_, rfl⟩
        rw [hv] at hc HLI
        clear hx hv
        go_upto_region 5 with (go_at_call 36; refine (HLI.out _).mono ?_; rintro e w' ⟨rfl, hw'⟩; subst hw')
        obtain ⟨first, hfirst⟩ : ∃ first : Bool, first = (decide (i = 0) || decide (lvF ls (i - 1) < x)) := ⟨_, rfl⟩
        cases first with
        | false =>
          have hi0 : 0 < i := by
            rcases Nat.eq_zero_or_pos i with h | h
            · rw [h] at hfirst; simp at hfirst
            · exact h
          obtain ⟨k, rfl⟩ : ∃ k, i = k + 1 := ⟨i - 1, by omega⟩
          obtain ⟨G2, o2, e2, _, hc2⟩ := HLC.out wr hbel k (by omega)
          cases e2
          rw [ith_ints] at hc2
          obtain ⟨y, hy⟩ : ∃ y, lvF ls k = y := ⟨_, rfl⟩
          have hxy : (x : Int) ≤ (y : Int) := by
            rw [Nat.add_sub_cancel, hy] at hfirst
            by_cases h : y < x
            · simp [h] at hfirst
            · omega
          have HLP := Lib.hid (HLV.out k)
          rw [hy] at HLP
          obtain ⟨vk, hvk⟩ : ∃ vk, ls.getD k 0 = vk := ⟨_, rfl⟩
          rw [hvk] at hc2 HLP
          have gk0 : (0 : Int) ≤ (k : Int) := by omega
          have gk1 : (k : Int) < (n : Int) := by omega
          clear hfirst hy hvk hc HLI
          go_wp2_with (go_at_call 36; refine (HLP.out _).mono ?_; rintro e w' ⟨rfl, hw'⟩; subst hw')
          go_roundw
          case rel => exact ⟨k + 1 + 1, by omega, by go_num, hbel⟩
          case measure => simp [intOf]; omega
        | true =>
          have hleft : i = 0 ∨ lvF ls (i - 1) < x := by
            have h := hfirst.symm
            rw [Bool.or_eq_true, decide_eq_true_eq, decide_eq_true_eq] at h
            exact h
          have HLEFT := Lib.hid hleft
          clear hfirst hleft
          go_cut [38] (fun t wx => t = .bool false ∧ wx = wr)
          case first =>
            rcases Nat.eq_zero_or_pos i with h0 | h0
            · subst h0
              go_wp2_with (fail)
              go_meet
              exact ⟨rfl, rfl⟩
            · obtain ⟨k, rfl⟩ : ∃ k, i = k + 1 := ⟨i - 1, by omega⟩
              obtain ⟨G2, o2, e2, _, hc2⟩ := HLC.out wr hbel k (by omega)
              cases e2
              rw [ith_ints] at hc2
              obtain ⟨y, hy⟩ : ∃ y, lvF ls k = y := ⟨_, rfl⟩
              have hxy : ¬ (x : Int) ≤ (y : Int) := by
                rcases HLEFT.out with h | h
                · omega
                · rw [Nat.add_sub_cancel, hy] at h; omega
              have HLP := Lib.hid (HLV.out k)
              rw [hy] at HLP
              obtain ⟨vk, hvk⟩ : ∃ vk, ls.getD k 0 = vk := ⟨_, rfl⟩
              rw [hvk] at hc2 HLP
              have gk0 : (0 : Int) ≤ (k : Int) := by omega
              have gk1 : (k : Int) < (n : Int) := by omega
              clear hy hvk hc HLI
              go_wp2_with (go_at_call 36; refine (HLP.out _).mono ?_; rintro e w' ⟨rfl, hw'⟩; subst hw')
              go_meet
              exact ⟨congrArg Value.bool (decide_eq_false (by omega)), rfl⟩
          case rest =>
            obtain ⟨rfl, hwx⟩ := hcut
            have hwx' := hwx.symm
            clear hwx
            subst hwx'
            go_upto_block 2 with (fail)
            go_wp2_with (fail)
            have HBEL := Lib.hid hbel
            have hx6 : x ≤ 126 := by rw [← HX.out]; unfold lvF; omega
            clear hbel hc
            go_loopw [7, 8, 9, 10] (fun u7 u8 u9 u10 wx => ∃ (p : Nat) (low high : Int) (al : Bool), u7 = .int .i64 (p : Nat) ∧ u8 = .int .i64 low ∧ u9 = .int .i64 high ∧ u10 = .bool al ∧ BesRel ls n i x p low high al ∧ -1 ≤ low ∧ low ≤ n ∧ -1 ≤ high ∧ high ≤ n ∧ Below w.heap.size w wx) (fun u7 _ _ _ _ => n - (intOf u7).toNat)
            case atStart => exact ⟨i, n, -1, true, rfl, rfl, rfl, rfl, BesRel.start ls n i x hi, by omega, by omega, by omega, by omega, HBEL.out⟩
            case round =>
              obtain ⟨p, low, high, al, rfl, rfl, rfl, rfl, br, hl1, hl2, hh1, hh2, hbel⟩ := hrel
              clear HBEL
              by_cases hgo : p < n ∧ x ≤ lvF ls p
              · obtain ⟨hpn, hxp⟩ := hgo
                obtain ⟨G2, o2, e2, _, hc2⟩ := HLC.out wr hbel p hpn
                cases e2
                rw [ith_ints] at hc2
                obtain ⟨G3, o3, e3, _, hc3⟩ := HTC.out wr hbel p hpn
                subst e3
                rw [listOf_ith _ _ _ hpn] at hc3
                have hnx := br.next hpn hxp
                obtain ⟨y, hy⟩ : ∃ y, lvF ls p = y := ⟨_, rfl⟩
                have HLP := Lib.hid (HLV.out p)
                have hspn : seeN ls n p < n := tF_lt _ _ _ hpn
                obtain ⟨sp, hsp⟩ : ∃ sp, seeN ls n p = sp := ⟨_, rfl⟩
                rw [hy] at HLP hxp hnx
                rw [hsp] at hc3 hnx hspn
                have HNX := Lib.hid hnx
                obtain ⟨vp, hvp⟩ : ∃ vp, ls.getD p 0 = vp := ⟨_, rfl⟩
                rw [hvp] at hc2 HLP
                have gp0 : (0 : Int) ≤ (p : Int) := by omega
                have gp1 : (p : Int) < (n : Int) := by omega
                have gxy : (x : Int) ≤ (y : Int) := by omega
                clear hy hsp hvp hnx br
                cases al with
                | true =>
                  by_cases hyx : y = x
                  · subst hyx
                    go_wp2_with (go_at_call 36; refine (HLP.out _).mono ?_; rintro e w' ⟨rfl, hw'⟩; subst hw')
                    go_roundw
                    case rel => exact ⟨p + 1, min low sp, max high sp, true, by go_num, rfl, rfl, rfl, by have := HNX.out; simpa using this, by omega, by omega, by omega, by omega, hbel⟩
                    case measure => simp [intOf]; omega
                  · have hb : ((y : Int) == (x : Int)) = false := by rw [beq_eq_false_iff_ne]; omega
                    go_wp2_with (go_at_call 36; refine (HLP.out _).mono ?_; rintro e w' ⟨rfl, hw'⟩; subst hw')
                    go_roundw
                    case rel => exact ⟨p + 1, min low sp, max high sp, false, by go_num, rfl, rfl, rfl, by have := HNX.out; rwa [decide_eq_false hyx] at this, by omega, by omega, by omega, by omega, hbel⟩
                    case measure => simp [intOf]; omega
                | false =>
                  go_wp2_with (go_at_call 36; refine (HLP.out _).mono ?_; rintro e w' ⟨rfl, hw'⟩; subst hw')
                  go_roundw
                  case rel => exact ⟨p + 1, min low sp, max high sp, false, by go_num, rfl, rfl, rfl, by have := HNX.out; simpa using this, by omega, by omega, by omega, by omega, hbel⟩
                  case measure => simp [intOf]; omega
              · have hip : i < p := by
                  rcases Nat.lt_or_ge i p with h | h
                  · exact h
                  · have hpi : p = i := by have := br.sp; omega
                    exact absurd ⟨by omega, by rw [hpi, HX.out]; exact Nat.le_refl _⟩ hgo
                have hstr : Str (lvF ls) n x i p := ⟨br.sp, br.pn, br.all, HLEFT.out, by
                  rcases Nat.lt_or_ge p n with h | h
                  · right
                    rcases Nat.lt_or_ge (lvF ls p) x with h' | h'
                    · exact h'
                    · exact absurd ⟨h, h'⟩ hgo
                  · left; have := br.pn; omega⟩
                have hspan := br.span hstr hip
                have hpn := br.pn
                have HSTR := Lib.hid hstr
                have HAL := Lib.hid br.al
                have HGO := Lib.hid hgo
                have HSPAN := Lib.hid hspan
                clear br hstr hgo hspan
                go_upto_region 10 with (fail)
                go_cut [54] (fun t wx => t = .bool false ∧ wx = wr)
                case first =>
                  rcases Nat.lt_or_ge p n with h | h
                  · obtain ⟨G2, o2, e2, _, hc2⟩ := HLC.out wr hbel p h
                    cases e2
                    rw [ith_ints] at hc2
                    obtain ⟨y, hy⟩ : ∃ y, lvF ls p = y := ⟨_, rfl⟩
                    have hxy : ¬ (x : Int) ≤ (y : Int) := by
                      intro h'
                      exact HGO.out ⟨h, by rw [hy]; omega⟩
                    have HLP := Lib.hid (HLV.out p)
                    rw [hy] at HLP
                    obtain ⟨vp, hvp⟩ : ∃ vp, ls.getD p 0 = vp := ⟨_, rfl⟩
                    rw [hvp] at hc2 HLP
                    have gp0 : (0 : Int) ≤ (p : Int) := by omega
                    have gp1 : (p : Int) < (n : Int) := by omega
                    clear hy hvp
                    go_wp2_with (go_at_call 36; refine (HLP.out _).mono ?_; rintro e w' ⟨rfl, hw'⟩; subst hw')
                    go_meet
                    exact ⟨congrArg Value.bool (decide_eq_false (by omega)), rfl⟩
                  · have hpe : p = n := by omega
                    subst hpe
                    go_wp2_with (fail)
                    go_meet
                    exact ⟨rfl, rfl⟩
                case rest =>
                  obtain ⟨rfl, hwx⟩ := hcut
                  have hwx' := hwx.symm
                  clear hwx
                  subst hwx'
                  have hsp2 := HSPAN.out
                  have HBEL := Lib.hid hbel
                  clear hbel
                  go_wp2_with (fail)
                  go_loopw [11] (fun u11 wx => ∃ k : Nat, u11 = .int .i64 ((k : Int) + 1) ∧ i ≤ k ∧ k + 1 ≤ p ∧ Below w.heap.size w wx) (fun u11 _ => p - (intOf u11).toNat)
                  case atStart => exact ⟨i, by go_num, Nat.le_refl _, hip, HBEL.out⟩
                  case round =>
                    obtain ⟨k, rfl, hik, hkp, hbel⟩ := hrel
                    clear HBEL
                    by_cases hk1 : k + 1 < p
                    · have gk2 : (k : Int) + 1 < (p : Int) := by omega
                      cases al with
                      | true =>
                        have hnx := see_next ls n x i p k HSTR.out (HAL.out rfl) hik hk1
                        obtain ⟨G3, o3, e3, _, hc3⟩ := HTC.out wr hbel (k + 1) (by omega)
                        subst e3
                        obtain ⟨G4, o4, e4, _, hc4⟩ := HTC.out wr hbel k (by omega)
                        cases e4
                        rw [listOf_ith _ _ _ (by omega)] at hc3 hc4
                        have hs1n : seeN ls n (k + 1) < n := tF_lt _ _ _ (by omega)
                        have hs0n : seeN ls n k < n := tF_lt _ _ _ (by omega)
                        obtain ⟨s1, hs1⟩ : ∃ s1, seeN ls n (k + 1) = s1 := ⟨_, rfl⟩
                        obtain ⟨s0, hs0⟩ : ∃ s0, seeN ls n k = s0 := ⟨_, rfl⟩
                        rw [hs1] at hc3 hnx hs1n
                        rw [hs0] at hc4 hnx hs0n
                        have gk0 : (0 : Int) ≤ (k : Int) := by omega
                        have gk1 : (k : Int) < (n : Int) := by omega
                        have gk3 : (k : Int) + 1 < (n : Int) := by omega
                        clear hs1 hs0 hsp2
                        rcases sg_cases x with ⟨hx2, hsg⟩ | ⟨hx2, hsg⟩
                        · rw [hsg] at hnx
                          have hxm : (x : Int) % 2 = 0 := by omega
                          clear hsg hx2
                          go_upto_region 20 with (fail)
                          go_quiet (fail)
                          go_wp2_with (fail)
                          go_roundw
                          case rel => exact ⟨k + 1, by go_num, by omega, by omega, bl_drewN hbel _⟩
                          case measure => simp [intOf]; omega
                        · rw [hsg] at hnx
                          have hnx2 : (s1 : Int) = (s0 : Int) - 1 := by omega
                          have hxm : (x : Int) % 2 = 1 := by omega
                          clear hsg hx2 hnx
                          go_upto_region 20 with (fail)
                          go_quiet (fail)
                          go_wp2_with (fail)
                          go_roundw
                          case rel => exact ⟨k + 1, by go_num, by omega, by omega, bl_drewN hbel _⟩
                          case measure => simp [intOf]; omega
                      | false =>
                        clear hsp2
                        go_wp2_with (fail)
                        go_roundw
                        case rel => exact ⟨i + 1, by omega, by go_num, hbel⟩
                        case measure => simp [intOf]; omega
                    · have gk2 : ¬ (k : Int) + 1 < (p : Int) := by omega
                      clear hsp2
                      go_wp2_with (fail)
                      go_roundw
                      case rel => exact ⟨i + 1, by omega, by go_num, hbel⟩
                      case measure => simp [intOf]; omega
      · go_wp2_with (fail)
        go_ret
        exact ⟨rfl, hbel⟩
    · go_wp2_with (fail)
      go_ret
      exact ⟨rfl, hbel⟩
end Go.Proofs.Ytbhhebheclfdlaa
