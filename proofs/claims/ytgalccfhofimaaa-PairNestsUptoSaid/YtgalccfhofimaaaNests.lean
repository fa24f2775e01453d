/- The law PairNests of layer 9: at any characters and kinds (at most 2097152) it answers true, and nothing that was there changes. -/
import Derived.Test.YtgalccfhofimaaaStays
import Derived.Deep.OwnRows
namespace Go.Proofs.Ytgalccfhofimaaa
open Go.RowKit
set_option linter.unusedVariables false
set_option linter.unusedSimpArgs false

theorem Try.info_bool : (Try.prog.info? 4).map (fun i => (i.zero, i.size, i.bytes)) = some (some (.bool false), 1, 1) := by kernel_rfl
structure NestOk (R K : List Int) (n : Nat) (l : List (Nat × Nat)) : Prop where
  ok : ∀ i, i < l.length → PairOk R K n (l.getD i (0, 0))
  up : ∀ i, i + 1 < l.length → (l.getD i (0, 0)).1 < (l.getD (i + 1) (0, 0)).1
  apart : ∀ i j, j < i → i < l.length → Apart (l.getD j (0, 0)) (l.getD i (0, 0))
theorem getD_eq {α : Type} (l : List α) (d : α) (i : Nat) (h : i < l.length) : l.getD i d = l[i] := by
  rw [List.getD_eq_getElem?_getD, List.getElem?_eq_getElem h]; rfl
theorem nest_ok {R K : List Int} {n : Nat} {l : List (Nat × Nat)} (hp : l.Perm (brkF R K n 0 [] [])) (hs : l.Pairwise (fun a b => a.1 ≤ b.1)) : NestOk R K n l := by
  have h := (brkF_all R K n).perm hp
  have ha : ∀ i j, j < i → i < l.length → Apart (l.getD j (0, 0)) (l.getD i (0, 0)) := fun i j h1 h2 => by
    rw [getD_eq _ _ _ h2, getD_eq _ _ _ (by omega : j < l.length)]
    exact List.pairwise_iff_getElem.1 h.apart j i (by omega) h2 h1
  refine ⟨fun i hi => h.ok _ (getD_mem l _ i hi), fun i hi => ?_, ha⟩
  have h1 := (ha (i + 1) i (by omega) hi).1
  have h2 := List.pairwise_iff_getElem.1 hs i (i + 1) (by omega) hi (by omega)
  rw [getD_eq _ _ _ hi, getD_eq _ _ _ (by omega : i < l.length)] at *
  omega
def UsedBy (l : List (Nat × Nat)) (i x : Nat) : Prop := ∃ j, j < i ∧ (x = (l.getD j (0, 0)).1 ∨ x = (l.getD j (0, 0)).2)
theorem NestOk.upto {R K : List Int} {n : Nat} {l : List (Nat × Nat)} (h : NestOk R K n l) (j : Nat) : ∀ d, j + (d + 1) < l.length → (l.getD j (0, 0)).1 < (l.getD (j + (d + 1)) (0, 0)).1
  | 0, hd => h.up j hd
  | d + 1, hd => Nat.lt_trans (NestOk.upto h j d (by omega)) (h.up (j + (d + 1)) (by omega))
theorem NestOk.free {R K : List Int} {n : Nat} {l : List (Nat × Nat)} (h : NestOk R K n l) (i j : Nat) (hj : j < i) (hi : i < l.length) :
    (l.getD i (0, 0)).1 < (l.getD j (0, 0)).2 → (l.getD i (0, 0)).2 ≤ (l.getD j (0, 0)).2 := fun h1 => by
  have h2 := h.upto j (i - j - 1) (by omega)
  rw [show j + (i - j - 1 + 1) = i by omega] at h2
  have h3 := (h.apart i j hj hi).2.2.2.2.1
  unfold Cross at h3
  omega
theorem UsedBy.no {R K : List Int} {n : Nat} {l : List (Nat × Nat)} (h : NestOk R K n l) (i : Nat) (hi : i < l.length) : ¬ UsedBy l i (l.getD i (0, 0)).1 ∧ ¬ UsedBy l i (l.getD i (0, 0)).2 := by
  refine ⟨fun ⟨j, hj, e⟩ => ?_, fun ⟨j, hj, e⟩ => ?_⟩ <;> have ha := h.apart i j hj hi <;> rcases e with e | e
  · exact ha.1 e.symm
  · exact ha.2.2.1 e.symm
  · exact ha.2.1 e.symm
  · exact ha.2.2.2.1 e.symm
theorem UsedBy.next {l : List (Nat × Nat)} {us : Nat → Bool} {i p q : Nat} (h : ∀ x, us x = true ↔ UsedBy l i x) (hp : (l.getD i (0, 0)).1 = p) (hq : (l.getD i (0, 0)).2 = q) :
    ∀ x, (fun x => x == q || (x == p || us x)) x = true ↔ UsedBy l (i + 1) x := fun x => by
  simp only [Bool.or_eq_true, beq_iff_eq, h]
  subst hp hq
  constructor
  · rintro (h1 | h1 | ⟨j, hj, h1⟩)
    · exact ⟨i, by omega, .inr h1⟩
    · exact ⟨i, by omega, .inl h1⟩
    · exact ⟨j, by omega, h1⟩
  · rintro ⟨j, hj, h1⟩
    by_cases e : j = i
    · subst e; rcases h1 with h1 | h1
      · exact .inr (.inl h1)
      · exact .inl h1
    · exact .inr (.inr ⟨j, by omega, h1⟩)

set_option maxRecDepth 100000 in
set_option maxHeartbeats 2000000 in
theorem Nests_any (ra ka : Option Addr) (rs ks : List Int) (rc kc : Nat) (w : World) (hr : Rd .i32 w ra rs) (hk : Rd .i8 w ka ks) (hrn : rs.length ≤ 2097152) (hkn : ks.length ≤ 2097152)
    (hrc : rs.length ≤ rc) (hkc : ks.length ≤ kc) (hrm : rc ≤ maxLen) (hkm : kc ≤ maxLen) :
    Calls Try.prog 5 #[.slice ra rs.length rc, .slice ka ks.length kc] w fun e w' => e = .returned (.bool true) ∧ Below w.heap.size w w' := by
  obtain ⟨i4, hi4, hz4, ha4, hb4⟩ := info_parts (Try.info_bool)
  obtain ⟨M, hM⟩ : ∃ M, M = min rs.length ks.length := ⟨_, rfl⟩
  have hM1 : M ≤ rs.length := by omega
  have hM2 : M ≤ ks.length := by omega
  have hshort := fun W => short_any ra ka rs.length ks.length rc kc W hrc hkc hrm hkm
  rw [← hM] at hshort
  have HSHORT := Lib.hid hshort
  clear hshort hM
  have hR := hr.take M
  have hK := hk.take M
  have hRl : (rs.take M).length = M := by simp; omega
  have hKl : (ks.take M).length = M := by simp; omega
  generalize rs.take M = R at hR hRl
  generalize ks.take M = K at hK hKl
  have HRL := Lib.hid hRl
  have HKL := Lib.hid hKl
  clear hRl hKl hr hk
  go_enter Try.func5, Try.ntmps5
  go_upto_region 2 with (go_at_call 17; refine (HSHORT.out _).mono ?_; rintro e w1 ⟨q, rfl, rfl⟩)
  go_upto_region 3 with (go_at_call 9; refine (Brackets_len _ _ R K _ _ _ _ _ HRL.out HKL.out (hR.below (bl_drewN (Below.refl _ _) _)) (hK.below (bl_drewN (Below.refl _ _) _)) (by omega) (by omega)).mono ?_; rintro e w3 ⟨v3, l, hperm, hsort, rfl, hpown, hb3⟩)
  rw [HRL.out, HKL.out, Nat.min_self] at hperm
  have hnest := nest_ok hperm hsort
  obtain ⟨pa, pc, rfl, hP⟩ := PairsAt.of hpown
  have hbW := (bl_drewN (Below.refl w.heap.size w) q).trans hb3
  have HNEST := Lib.hid hnest
  have HSP := Lib.hid (pairs_len hP)
  clear hperm hsort hpown hb3 hnest HSHORT
  generalize hN : l.length = N at *
  have HN := Lib.hid hN
  clear hN
  have hmk := run_make_row (P := Try.prog) 37 4 i4 (.bool false) Try.underlying37 hi4 hz4 ha4 rfl .i64 .i64 M (by rw [hb4]; omega) (by omega)
  go_wp2_with (fail)
  clear hmk
  have hrow0 := World.rowIs_made w3 (.bool false) M 4
  go_loopw [9] (fun c wx => ∃ (i : Nat) (us : Nat → Bool), i ≤ N ∧ c = .int .i64 i ∧ wx.rowIs w3.heap.size 4 M (fun x => .bool (us x)) ∧ (∀ x, us x = true ↔ UsedBy l i x) ∧ Below w3.heap.size w3 wx) (fun c _ => N - (intOf c).toNat)
  case atStart => exact ⟨0, fun _ => false, by omega, rfl, hrow0, fun x => ⟨fun h => (by cases h), fun ⟨j, hj, _⟩ => absurd hj (by omega)⟩, (Below.refl _ _).alloc (Nat.le_refl _) _⟩
  case round =>
    rename_i wr _
    obtain ⟨i, us, hi, rfl, hrow, hus, hbel⟩ := hrel
    clear hrow0
    by_cases hlt : i < N
    · have hbW2 := hbW.trans (hbel.mono hbW.size)
      obtain ⟨PB, hPB, hPB1, hPB2, hc0, hc1⟩ := hP.at i (by have := HN.out; omega)
      subst hPB
      replace hc0 := cell_bl hbel hPB2 hc0
      replace hc1 := cell_bl hbel hPB2 hc1
      have hok := HNEST.out.ok i (by have := HN.out; omega)
      obtain ⟨hun1, hun2⟩ := UsedBy.no HNEST.out i (by have := HN.out; omega)
      obtain ⟨hpq, hqM, hkp, hkq, hpp, hpqr⟩ := hok
      generalize hp0 : (l.getD i (0, 0)).1 = p at hc0 hpq hkp hpp hpqr hun1
      generalize hq0 : (l.getD i (0, 0)).2 = q2 at hc1 hpq hqM hkq hpp hpqr hun2
      have HP0 := Lib.hid hp0
      have HQ0 := Lib.hid hq0
      have hup : us p = false := by cases h : us p; rfl; exact absurd ((hus p).1 h) hun1
      have huq : us q2 = false := by cases h : us q2; rfl; exact absurd ((hus q2).1 h) hun2
      have hcp := hrow.cell (show p < M by omega)
      have hcq := hrow.cell (show q2 < M by omega)
      rw [hup] at hcp
      rw [huq] at hcq
      obtain ⟨kb, ko, rfl, hkb, hkc2⟩ := hK.at hbW2 p (by have := HKL.out; omega)
      obtain ⟨kb', ko', hkbe, hkb', hkc3⟩ := hK.at hbW2 q2 (by have := HKL.out; omega)
      cases hkbe
      obtain ⟨rb, ro, rfl, hrb, hrc2⟩ := hR.at hbW2 p (by have := HRL.out; omega)
      obtain ⟨rb', ro', hrbe, hrb', hrc3⟩ := hR.at hbW2 q2 (by have := HRL.out; omega)
      cases hrbe
      rw [hkp] at hkc2
      rw [hkq] at hkc3
      generalize ith R p = x at hrc2 hpp hpqr
      generalize ith R q2 = y at hrc3 hpp hpqr
      have HPP := Lib.hid hpp
      have HPQ := Lib.hid hpqr
      have HUS := Lib.hid hus
      have hM62 : (M : Int) ≤ 2097152 := by omega
      clear hpp hpqr hkp hkq hun1 hun2 hup huq hp0 hq0 hus hkb hkb' hrb'
      go_upto_region 9 with (fail)
      have t1 : decide ((p : Int) < 0) = false := decide_eq_false (by omega)
      have t2 : decide (q2 ≤ p) = false := decide_eq_false (by omega)
      have t3 : decide (M ≤ q2) = false := decide_eq_false (by omega)
      go_cut [99] (fun s99 wx => s99 = .bool false ∧ wx = wr)
      case first =>
        by_cases h0 : i = 0
        · subst h0
          go_wp2_with (fail)
          all_goals (go_meet; exact ⟨rfl, rfl⟩)
        · obtain ⟨i', hii⟩ : ∃ i', i = i' + 1 := ⟨i - 1, by omega⟩
          obtain ⟨PB', hPBe, _, _, hd0, _⟩ := hP.at i' (by have := HN.out; omega)
          cases hPBe
          replace hd0 := cell_bl hbel hPB2 hd0
          have hup := HNEST.out.up i' (by have := HN.out; omega)
          rw [← hii, HP0.out] at hup
          generalize (l.getD i' (0, 0)).1 = p' at hd0 hup
          have t4 : decide (p ≤ p') = false := decide_eq_false (by omega)
          have t5 : decide (0 < i) = true := decide_eq_true (by omega)
          have hsub : (i : Int) - 1 = (i' : Int) := by omega
          have g5 : 0 < i := by omega
          have g6 : i' < N := by omega
          have g7 : i' ≤ 9223372036854775807 := by have h1 := HSP.out; have h2 := HN.out; unfold maxLen at h1; omega
          clear hii h0
          go_wp2_with (fail)
          all_goals (go_meet; exact ⟨rfl, rfl⟩)
      case rest =>
        obtain ⟨rfl, hwc⟩ := hcut
        have hwc' := hwc.symm
        clear hwc
        subst hwc'
        have hfp := hrow.frozen p
        have hfq := hrow.frozen q2
        clear t1 t2 t3 hkc2 hkc3
        go_upto_region 13 with (fail)
        obtain ⟨w5, hw5⟩ : ∃ w5, w5 = (wr.setCell ⟨w3.heap.size, p, none⟩ (.bool true)).setCell ⟨w3.heap.size, q2, none⟩ (.bool true) := ⟨_, rfl⟩
        rw [← hw5]
        have hb5 : Below w3.heap.size wr w5 := by rw [hw5]; exact ((Below.refl _ _).setCell (show w3.heap.size ≤ (⟨w3.heap.size, p, none⟩ : Addr).block from Nat.le_refl _) _).setCell (show w3.heap.size ≤ (⟨w3.heap.size, q2, none⟩ : Addr).block from Nat.le_refl _) _
        have hrow5 : w5.rowIs w3.heap.size 4 M (fun x => .bool (x == q2 || (x == p || us x))) := by
          rw [hw5]
          refine ((hrow.set p (.bool true)).set q2 (.bool true)).congr fun x hx => ?_
          by_cases e1 : x = q2
          · simp [e1]
          · by_cases e2 : x = p
            · simp [e2]
            · have f1 : (x == q2) = false := by simpa using e1
              have f2 : (x == p) = false := by simpa using e2
              simp [e1, e2, f1, f2]
        clear hrow hcp hcq hfp hfq hw5
        have hrx := cell_bl hb5 (show rb < w3.heap.size by have := hbW.size; omega) hrc2
        have hry := cell_bl hb5 (show rb < w3.heap.size by have := hbW.size; omega) hrc3
        clear hrc2 hrc3
        have HP1 := Pair_any x w5
        have HP2 := Pair_any y w5
        unfold PairPost at HP1 HP2
        rw [HPP.out] at HP1
        rw [HPQ.out] at HP2
        go_upto_region 14 with (go_at_call 18; refine HP1.mono ?_; rintro e w6 ⟨rfl, hw6⟩)
        subst hw6
        go_upto_region 15 with (go_at_call 18; refine HP2.mono ?_; rintro e w6 ⟨rfl, hw6⟩)
        subst hw6
        clear HP1 HP2
        go_upto_region 17 with (fail)
        clear hrx hry hc0 hc1 hqM
        have hNb : N ≤ 9223372036854775807 := by have h1 := HSP.out; unfold maxLen at h1; omega
        have HROW5 := Lib.hid hrow5
        have HBEL := Lib.hid (hbel.trans hb5)
        clear hrow5 hbel hb5
        go_wp2_with (fail)
        go_loopw [18] (fun c wx => ∃ j : Nat, j ≤ i ∧ c = .int .i64 j ∧ wx = w5) (fun c _ => i - (intOf c).toNat)
        case atStart => exact ⟨0, by omega, rfl, rfl⟩
        case round =>
          obtain ⟨j, hj, rfl, hwx⟩ := hrel
          have hwx' := hwx.symm
          clear hwx
          subst hwx'
          by_cases hji : j < i
          · by_cases h3 : N < 300
            · obtain ⟨PB', hPBe, _, _, _, hd1⟩ := hP.at j (by have := HN.out; omega)
              cases hPBe
              replace hd1 := cell_bl HBEL.out hPB2 hd1
              have hfree := HNEST.out.free i j hji (by have := HN.out; omega)
              rw [HP0.out, HQ0.out] at hfree
              generalize (l.getD j (0, 0)).2 = y' at hd1 hfree
              by_cases hpy : p < y'
              · have d1 : decide (y' < q2) = false := decide_eq_false (by have := hfree hpy; omega)
                clear hfree
                go_wp2_with (fail)
                go_roundw
                case rel => exact ⟨j + 1, by omega, by go_num, trivial⟩
                case measure => simp [intOf]; omega
              · have d1 : decide (p < y') = false := decide_eq_false hpy
                clear hfree
                go_wp2_with (fail)
                go_roundw
                case rel => exact ⟨j + 1, by omega, by go_num, trivial⟩
                case measure => simp [intOf]; omega
            · go_wp2_with (fail)
              go_roundw
              case rel => exact ⟨i + 1, _, by omega, by go_num, HROW5.out, UsedBy.next HUS.out HP0.out HQ0.out, HBEL.out⟩
              case measure => simp [intOf]; omega
          · go_wp2_with (fail)
            go_roundw
            case rel => exact ⟨i + 1, _, by omega, by go_num, HROW5.out, UsedBy.next HUS.out HP0.out HQ0.out, HBEL.out⟩
            case measure => simp [intOf]; omega
    · have HB := Lib.hid (hbW.trans (hbel.mono hbW.size))
      clear hrow hbel
      go_wp2_with (go_at_call 13; refine (alive_any _).mono ?_; rintro e w4 ⟨rfl, hb4⟩)
      go_ret
      exact ⟨rfl, HB.out.trans (hb4.mono HB.out.size)⟩
end Go.Proofs.Ytgalccfhofimaaa
