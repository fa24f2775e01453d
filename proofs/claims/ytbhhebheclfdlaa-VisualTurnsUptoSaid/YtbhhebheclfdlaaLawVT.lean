/- The law VisualTurns of layer 10: at any levels (at most 2097152) it answers true, and nothing that was there changes. -/
import Derived.Test.YtbhhebheclfdlaaTurnB
import Derived.Test.YtbhhebheclfdlaaWake
namespace Go.Proofs.Ytbhhebheclfdlaa
set_option linter.unusedVariables false
set_option linter.unusedSimpArgs false
open Go.RowKit

theorem nats_of {zs : List Int} (h : ∀ x ∈ zs, 0 ≤ x ∧ x ≤ 255) : ∃ ls : List Nat, ints ls = zs ∧ ls.length = zs.length ∧ ∀ l ∈ ls, l ≤ 255 := by
  refine ⟨zs.map Int.toNat, ?_, by simp, fun l hl => ?_⟩
  · unfold ints
    rw [List.map_map]
    conv => rhs; rw [← List.map_id zs]
    refine List.map_congr_left fun x hx => ?_
    have := h x hx
    show ((x.toNat : Nat) : Int) = x
    omega
  · rw [List.mem_map] at hl
    obtain ⟨x, hx, rfl⟩ := hl
    have := h x hx
    omega
set_option maxRecDepth 100000 in
set_option maxHeartbeats 1000000 in
theorem LawVT_any (a : Option Addr) (ls : List Nat) (n c : Nat) (w : World) (hl : ls.length = n) (hd : Rd .u8 w a (ints ls)) (hb : ∀ l ∈ ls, l ≤ 255) (hn : n ≤ 2097152) :
    Calls Try.prog 6 #[.slice a n c] w fun e w' => e = .returned (.bool true) ∧ Below w.heap.size w w' := by
  have HO := Lib.hid (Order_any a ls n c w hl hd hn)
  unfold OrdPost at HO
  rw [order_list ls n hl] at HO
  have hst := see_turned ls n hl
  have htb := turned_back ls n hl
  rw [order_list ls n hl] at hst htb
  obtain ⟨ol, hol⟩ : ∃ ol, listOf n (fun p => (ordN ls n p : Int)) = ol := ⟨_, rfl⟩
  obtain ⟨tl, htl⟩ : ∃ tl, listOf n (fun p => (seeN ls n p : Int)) = tl := ⟨_, rfl⟩
  rw [hol, htl] at hst htb
  rw [hol] at HO
  have hoi : ∀ i, i < n → ith ol i = (ordN ls n i : Int) := fun i hi => by rw [← hol, listOf_ith _ _ _ hi]
  have hti : ∀ i, i < n → ith tl i = (seeN ls n i : Int) := fun i hi => by rw [← htl, listOf_ith _ _ _ hi]
  have holl : ol.length = n := by rw [← hol, listOf_len]
  have htll : tl.length = n := by rw [← htl, listOf_len]
  have HT1 := Lib.hid (fun ad W (h : Rd .i64 W ad ol) => Turned_any ad ol n n W holl h hn)
  have HT2 := Lib.hid (fun ad tc W (h : Rd .i64 W ad tl) => Turned_any ad tl n tc W htll h hn)
  unfold OptPost at HT1 HT2
  rw [hst] at HT1
  rw [htb] at HT2
  have HBE := Lib.hid (fun t tc W (hbw : Below w.heap.size w W) (h : Rd .i64 W t tl) => beside_any a t ls n c tc W hl (hd.below hbw) hb (by rw [htl]; exact h) hn)
  have HOI := Lib.hid hoi
  have HTI := Lib.hid hti
  have HOL := Lib.hid holl
  have HTL := Lib.hid htll
  clear hst htb hol htl hoi hti holl htll hl hd hb
  go_enter Try.func6, Try.ntmps6
  go_upto_block 0 with (first | (go_at_call 19; refine HO.out.mono ?_; rintro e w1 ⟨rfl, hO1, hb1⟩) | (go_at_call 20; refine (HT1.out _ _ hO1.rd).mono ?_; rintro e w2 ⟨hb2, htn, ta, tc, rfl, hT2⟩))
  have hO2 := hO1.keep hb2
  have hbw2 : Below w.heap.size w w2 := hb1.trans (hb2.mono hb1.size)
  have HO2 := Lib.hid hO2
  have HT2' := Lib.hid hT2
  have HB2 := Lib.hid hbw2
  clear hO1 hO2 hb1 hb2 hbw2 hT2
  go_cut [5] (fun _ wx => wx = w2)
  case first =>
    go_wp2_with (fail)
    go_loopw [5] (fun u wx => ∃ i : Nat, i ≤ n ∧ u = .int .i64 i ∧ wx = w2) (fun u _ => n - (intOf u).toNat)
    case atStart => exact ⟨0, by omega, rfl, rfl⟩
    case round =>
      obtain ⟨i, hi, rfl, hwx⟩ := hrel
      have hwx' := hwx.symm
      clear hwx
      subst hwx'
      by_cases hlt : i < n
      · have ho := HOI.out i hlt
        have ht := HTI.out i hlt
        have hon : ordN ls n i < n := oF_lt _ _ _ hlt
        have htn2 : seeN ls n i < n := tF_lt _ _ _ hlt
        have hto := HTI.out (ordN ls n i) hon
        have hot := HOI.out (seeN ls n i) htn2
        rw [show seeN ls n (ordN ls n i) = i from tF_oF _ _ _ _ _] at hto
        rw [show ordN ls n (seeN ls n i) = i from oF_tF _ _ _ _ _] at hot
        obtain ⟨oi, hoi⟩ : ∃ oi, ordN ls n i = oi := ⟨_, rfl⟩
        obtain ⟨ti, hti⟩ : ∃ ti, seeN ls n i = ti := ⟨_, rfl⟩
        rw [hoi] at ho hon hto
        rw [hti] at ht htn2 hot
        obtain ⟨_, e1, _, _, c1, _⟩ := HO2.out.at i (by rw [HOL.out]; exact hlt)
        cases e1
        obtain ⟨Gt, e2, _, _, c2, _⟩ := HT2'.out.at i (by rw [HTL.out]; exact hlt)
        subst e2
        obtain ⟨_, e3, _, _, c3, _⟩ := HT2'.out.at oi (by rw [HTL.out]; exact hon)
        cases e3
        obtain ⟨_, e4, _, _, c4, _⟩ := HO2.out.at ti (by rw [HOL.out]; exact htn2)
        cases e4
        rw [ho] at c1
        rw [ht] at c2
        rw [hto] at c3
        rw [hot] at c4
        have g0 : (0 : Int) ≤ (i : Int) := by omega
        have g1 : (i : Int) < (n : Int) := by omega
        have g2 : (0 : Int) ≤ (oi : Int) := by omega
        have g3 : (oi : Int) < (n : Int) := by omega
        have g4 : (0 : Int) ≤ (ti : Int) := by omega
        have g5 : (ti : Int) < (n : Int) := by omega
        clear ho ht hto hot hoi hti
        go_wp2_with (fail)
        go_roundw
        case rel => exact ⟨i + 1, by omega, by go_num, trivial⟩
        case measure => simp [intOf]; omega
      · have hie : n = i := by omega
        subst hie
        go_wp2_with (fail)
        go_meet
        first | exact rfl | exact trivial
  case rest =>
    have hwx' := hcut.symm
    clear hcut
    subst hwx'
    go_upto_block 2 with (go_at_call 20; refine (HT2.out _ _ _ HT2'.out.rd).mono ?_; rintro e w3 ⟨hb3, hbn, ba, bc, rfl, hB3⟩)
    have hO3 := HO2.out.keep hb3
    have hT3 := HT2'.out.keep hb3
    have hbw3 : Below w.heap.size w w3 := HB2.out.trans (hb3.mono HB2.out.size)
    have HO3 := Lib.hid hO3
    have HBK := Lib.hid hB3
    have HT3 := Lib.hid hT3
    have HB3 := Lib.hid hbw3
    clear hO3 hT3 hbw3 hB3 hb3
    go_cut [7] (fun _ wx => Below w3.heap.size w3 wx)
    case first =>
      go_wp2_with (fail)
      go_loopw [7] (fun u wx => ∃ i : Nat, i ≤ n ∧ u = .int .i64 i ∧ Below w3.heap.size w3 wx) (fun u _ => n - (intOf u).toNat)
      case atStart => exact ⟨0, by omega, rfl, Below.refl _ _⟩
      case round =>
        obtain ⟨i, hi, rfl, hbx⟩ := hrel
        by_cases hlt : i < n
        · obtain ⟨_, e1, _, _, c1, _⟩ := (HO3.out.keep hbx).at i (by rw [HOL.out]; exact hlt)
          cases e1
          obtain ⟨Gb, e2, _, _, c2, _⟩ := (HBK.out.keep hbx).at i (by rw [HOL.out]; exact hlt)
          subst e2
          generalize ith ol i = v at c1 c2
          have g0 : (0 : Int) ≤ (i : Int) := by omega
          have g1 : (i : Int) < (n : Int) := by omega
          go_upto_region 14 with (fail)
          go_quiet (fail)
          go_wp2_with (fail)
          go_roundw
          case rel => exact ⟨i + 1, by omega, by go_num, bl_drewN hbx _⟩
          case measure => simp [intOf]; omega
        · have hie : n = i := by omega
          subst hie
          go_wp2_with (fail)
          go_meet
          exact hbx
    case rest =>
      have HB4 := Lib.hid (HB3.out.trans (hcut.mono HB3.out.size))
      have HT4 := Lib.hid (HT3.out.keep hcut)
      clear hcut
      go_wp2_with (first | (go_at_call 24; refine (HBE.out _ _ _ HB4.out HT4.out.rd).mono ?_; rintro e w5 ⟨rfl, hb5⟩) | (go_at_call 16; refine (wakes_any w5).mono ?_; rintro e w6 ⟨rfl, hb6⟩))
      go_ret
      exact ⟨rfl, HB4.out.trans ((hb5.trans (hb6.mono hb5.size)).mono HB4.out.size)⟩
end Go.Proofs.Ytbhhebheclfdlaa
