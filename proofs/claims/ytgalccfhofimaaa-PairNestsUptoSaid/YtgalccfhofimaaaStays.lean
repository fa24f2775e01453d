/- The law PairStays of layer 9: at any characters and kinds (at most 2097152), any level below 256 and any two ends it answers true, and nothing that was there changes. -/
import Derived.Test.YtgalccfhofimaaaAlive
import Derived.Test.YtgalccfhofimaaaPlain09C
namespace Go.Proofs.Ytgalccfhofimaaa
open Go.RowKit
set_option linter.unusedVariables false
set_option linter.unusedSimpArgs false

set_option maxHeartbeats 400000 in
/-- both lists cut to the shorter one's length -/
theorem short_any (ra ka : Option Addr) (rn kn rc kc : Nat) (w : World) (hr : rn ≤ rc) (hk : kn ≤ kc) (hrm : rc ≤ maxLen) (hkm : kc ≤ maxLen) :
    Calls Try.prog 17 #[.slice ra rn rc, .slice ka kn kc] w fun e w' => ∃ q, e = .returned (.tuple #[.slice ra (min rn kn) rc, .slice ka (min rn kn) kc]) ∧ w' = w.drewN q := by
  unfold maxLen at hrm hkm
  obtain ⟨M, hM⟩ : ∃ M, M = min rn kn := ⟨_, rfl⟩
  have hM1 : M ≤ rn := by omega
  have hM2 : M ≤ kn := by omega
  rw [← hM]
  have HM := Lib.hid hM
  clear hM
  have g0 : (0 : Int) ≤ (M : Int) := by omega
  have g1 : (M : Int) ≤ (rc : Int) := by omega
  have g2 : (M : Int) ≤ (kc : Int) := by omega
  go_enter Try.func17, Try.ntmps17
  go_upto_region 1 with (fail)
  go_cut [6] (fun s6 wx => s6 = .int .i64 M ∧ wx = w)
  case first =>
    go_wp2_with (fail)
    all_goals (go_meet; exact ⟨by have := HM.out; go_num, rfl⟩)
  case rest =>
    obtain ⟨rfl, hwc⟩ := hcut
    have hwc' := hwc.symm
    clear hwc
    subst hwc'
    go_wp2_with (fail)
    go_quiet (fail)
    go_wp2_with (fail)
    go_ret2
    exact ⟨_, rfl, rfl⟩


/-- what the law asks of the answer -/
structure StaysOk (K ans : List Int) (E s0 s1 : Int) : Prop where
  keep : ∀ i, i < K.length → 0 ≤ wayI (alI (ith K i)) → ith ans i = alI (ith K i)
  turn : ∀ i, i < K.length → wayI (alI (ith K i)) < 0 → ith ans i = 0 ∨ ith ans i = 1
  one : s0 = E → s1 = E → (∀ i, i < K.length → 0 ≤ wayI (alI (ith K i)) → wayI (alI (ith K i)) = E) → ∀ i, i < K.length → ith ans i = E ∨ ith ans i = 3 ∨ ith ans i = 6

theorem wayI_E {y : Int} {E : Int} (h : wayI y = E) (hE : E = 0 ∨ E = 1) : y = E ∨ y = 3 ∨ y = 6 ∨ y = 2 := by
  unfold wayI at h
  split at h
  · left; omega
  · split at h
    · rename_i h1
      rcases h1 with h1 | h1 | h1 | h1
      · left; omega
      · exact .inr (.inr (.inr h1))
      · exact .inr (.inl h1)
      · exact .inr (.inr (.inl h1))
    · omega

theorem stays_ok (R K : List Int) (level : Nat) (sos eos : Int) (l : List (Nat × Nat)) (hlen : R.length = K.length)
    (hl : l.Perm (brkF (R.take (min R.length K.length)) (alF (min R.length K.length) 0 (K.take (min R.length K.length))) (min R.length K.length) 0 [] [])) :
    StaysOk K (resolveF R K level sos eos l) (((level % 2 : Nat) : Int)) (sideI sos) (sideI eos) := by
  have hE : ((level : Int) % 2) = ((level % 2 : Nat) : Int) := by omega
  have hE2 : ((level % 2 : Nat) : Int) = 0 ∨ ((level % 2 : Nat) : Int) = 1 := by omega
  have hside : ∀ s, sideI s = 0 ∨ sideI s = 1 := fun s => by unfold sideI; split <;> simp
  have hmin : min R.length K.length = K.length := by omega
  have hval : ∀ v : Int, (v = 0 ∨ v = 1) → wayI v = v ∧ 0 ≤ v := fun v hv => by rcases hv with rfl | rfl <;> decide
  have hwv : ∀ y, 0 ≤ wayI y → wayI y = 0 ∨ wayI y = 1 := fun y h => by rcases wayI_val y with h1 | h1 | h1 <;> omega
  have hlT : (K.take K.length).length = K.length := by simp
  have hyi : ∀ j, j < K.length → ith (alF K.length 0 (K.take K.length)) j = alI (ith K j) := fun j hj => by
    rw [(alF_ith K.length 0 (K.take K.length) j (by omega)).1, if_pos (by omega), List.take_length]
  have hyl : (alF K.length 0 (K.take K.length)).length = K.length := by rw [(alF_ith K.length 0 (K.take K.length) 0 (by omega)).2, hlT]
  have t1 := resolveF_turned (D := fun v => v = 0 ∨ v = 1) R K level sos eos l (by rw [hE]; exact hE2) (hside sos) hval (fun i hi h => hwv _ h) hl
  rw [hmin] at t1
  refine ⟨fun i hi hw => ?_, fun i hi hw => ?_, fun h0 h1 hall i hi => ?_⟩
  · rw [t1.1.keep i (by omega) (by rw [hyi i hi]; exact hw), hyi i hi]
  · rcases t1.1.turn i (by omega) (by rw [hyi i hi]; exact hw) with h | h
    · have := t1.2 i hi
      rw [h, hyi i hi] at this; omega
    · exact h
  · have t2 := resolveF_turned (D := fun v => v = ((level % 2 : Nat) : Int)) R K level sos eos l hE h0 (fun v hv => hval v (by rw [hv]; exact hE2)) (fun i hi h => hall i (by omega) h) hl
    rw [hmin] at t2
    by_cases hw : 0 ≤ wayI (alI (ith K i))
    · rw [t2.1.keep i (by omega) (by rw [hyi i hi]; exact hw), hyi i hi]
      rcases wayI_E (hall i hi hw) hE2 with h | h | h | h
      · exact .inl h
      · exact .inr (.inl h)
      · exact .inr (.inr h)
      · unfold alI at h; split at h <;> omega
    · rcases t2.1.turn i (by omega) (by rw [hyi i hi]; omega) with h | h
      · have := t2.2 i hi
        rw [h, hyi i hi] at this; omega
      · exact .inl h

set_option maxRecDepth 100000 in
set_option maxHeartbeats 2000000 in
theorem Stays_any (ra ka : Option Addr) (rs ks : List Int) (rc kc : Nat) (level : Nat) (sos eos : Int) (w : World) (hr : Rd .i32 w ra rs) (hk : Rd .i8 w ka ks) (hrn : rs.length ≤ 2097152) (hkn : ks.length ≤ 2097152)
    (hrc : rs.length ≤ rc) (hkc : ks.length ≤ kc) (hrm : rc ≤ maxLen) (hkm : kc ≤ maxLen) (hl : level < 256) :
    Calls Try.prog 6 #[.slice ra rs.length rc, .slice ka ks.length kc, .int .u8 level, .int .i8 sos, .int .i8 eos] w fun e w' => e = .returned (.bool true) ∧ Below w.heap.size w w' := by
  obtain ⟨M, hM⟩ : ∃ M, M = min rs.length ks.length := ⟨_, rfl⟩
  have hM1 : M ≤ rs.length := by omega
  have hM2 : M ≤ ks.length := by omega
  have hshort := fun W => short_any ra ka rs.length ks.length rc kc W hrc hkc hrm hkm
  rw [← hM] at hshort
  have HSHORT := Lib.hid hshort
  clear hshort hM
  have hR := hr.take M
  have hK := hk.take M
  have hRl : (rs.take M).length = M := by simp; omega
  have hKl : (ks.take M).length = M := by simp; omega
  generalize rs.take M = R at hR hRl
  generalize ks.take M = K at hK hKl
  have HRL := Lib.hid hRl
  have HKL := Lib.hid hKl
  clear hRl hKl hr hk
  go_enter Try.func6, Try.ntmps6
  go_upto_if 38 with (first | (go_at_call 17; refine (HSHORT.out _).mono ?_; rintro e w1 ⟨q, rfl, rfl⟩) | (go_at_call 14; refine (Resolve_len _ _ R K _ _ _ _ level sos eos _ HRL.out HKL.out (hR.below (bl_drewN (Below.refl _ _) _)) (hK.below (bl_drewN (Below.refl _ _) _)) (by omega) (by omega) (by omega) (by omega) hl).mono ?_; rintro e w3 ⟨v3, l, hperm, hsort, rfl, hrl, hrown, hb3⟩; obtain ⟨ans, hans⟩ : ∃ a, a = resolveF R K level sos eos l := ⟨_, rfl⟩; have hok := stays_ok R K level sos eos l (HRL.out.trans HKL.out.symm) hperm; rw [← hans] at hok; have hres := res_shape hrl hrown hans.symm (HKL.out.trans HRL.out.symm); rw [HRL.out] at hres; obtain ⟨oa, oc, rfl, hO, hol⟩ := hres; clear hperm hsort hrl hrown hans))
  have HOK := Lib.hid hok
  have HOL := Lib.hid hol
  clear hok hol
  go_cut [14] (fun s14 wx => s14 = .int .i8 ((level % 2 : Nat) : Int) ∧ wx = w3)
  case first =>
    by_cases hodd : (level : Int) % 2 = 1
    · have hb : ((level : Int) % 2 == 1) = true := by simpa using hodd
      have HODD := Lib.hid hodd
      clear hodd
      go_wp2_with (fail)
      go_meet
      exact ⟨by rw [show level % 2 = 1 by have := HODD.out; omega]; rfl, rfl⟩
    · have hb : ((level : Int) % 2 == 1) = false := by simpa using hodd
      have HODD := Lib.hid hodd
      clear hodd
      go_wp2_with (fail)
      go_meet
      exact ⟨by rw [show level % 2 = 0 by have := HODD.out; omega]; rfl, rfl⟩
  case rest =>
    obtain ⟨rfl, hwc⟩ := hcut
    have hwc' := hwc.symm
    clear hwc
    subst hwc'
    have hE2 : ((level % 2 : Nat) : Int) = 0 ∨ ((level % 2 : Nat) : Int) = 1 := by omega
    generalize ((level % 2 : Nat) : Int) = E at hE2 HOK
    go_upto_region 8 with (fail)
    go_cut [15] (fun s15 wx => ∃ ob : Bool, s15 = .bool ob ∧ (ob = false → sideI sos = E ∧ sideI eos = E) ∧ wx = w3)
    case first =>
      rcases hE2 with rfl | rfl
      · have hsd : ∀ s, s ≠ 1 → sideI s = 0 := fun s h => if_neg h
        by_cases h1 : sos = 1
        · subst h1
          by_cases h2 : eos = 1
          · subst h2
            go_wp2_with (fail)
            go_meet
            exact ⟨_, rfl, (fun h => by cases h), rfl⟩
          · have b2 : (eos == 1) = false := by simpa using h2
            have z2 := hsd eos h2
            have H2 := Lib.hid h2
            have Z2 := Lib.hid z2
            clear h2 z2
            go_wp2_with (fail)
            go_meet
            exact ⟨_, rfl, (fun h => by cases h), rfl⟩
        · have b1 : (sos == 1) = false := by simpa using h1
          have z1 := hsd sos h1
          have H1 := Lib.hid h1
          have Z1 := Lib.hid z1
          clear h1 z1
          by_cases h2 : eos = 1
          · subst h2
            go_wp2_with (fail)
            go_meet
            exact ⟨_, rfl, (fun h => by cases h), rfl⟩
          · have b2 : (eos == 1) = false := by simpa using h2
            have z2 := hsd eos h2
            have H2 := Lib.hid h2
            have Z2 := Lib.hid z2
            clear h2 z2
            go_wp2_with (fail)
            go_meet
            exact ⟨_, rfl, fun _ => ⟨Z1.out, Z2.out⟩, rfl⟩
      · have hsd : ∀ s, s ≠ 1 → sideI s = 0 := fun s h => if_neg h
        by_cases h1 : sos = 1
        · subst h1
          by_cases h2 : eos = 1
          · subst h2
            go_wp2_with (fail)
            go_meet
            exact ⟨_, rfl, fun _ => ⟨rfl, rfl⟩, rfl⟩
          · have b2 : (eos == 1) = false := by simpa using h2
            have z2 := hsd eos h2
            have H2 := Lib.hid h2
            have Z2 := Lib.hid z2
            clear h2 z2
            go_wp2_with (fail)
            go_meet
            exact ⟨_, rfl, (fun h => by cases h), rfl⟩
        · have b1 : (sos == 1) = false := by simpa using h1
          have z1 := hsd sos h1
          have H1 := Lib.hid h1
          have Z1 := Lib.hid z1
          clear h1 z1
          by_cases h2 : eos = 1
          · subst h2
            go_wp2_with (fail)
            go_meet
            exact ⟨_, rfl, (fun h => by cases h), rfl⟩
          · have b2 : (eos == 1) = false := by simpa using h2
            have z2 := hsd eos h2
            have H2 := Lib.hid h2
            have Z2 := Lib.hid z2
            clear h2 z2
            go_wp2_with (fail)
            go_meet
            exact ⟨_, rfl, (fun h => by cases h), rfl⟩
    case rest =>
      obtain ⟨ob, rfl, hob, hwc⟩ := hcut
      have hwc' := hwc.symm
      clear hwc
      subst hwc'
      go_wp2_with (fail)
      have hbW := (bl_drewN (Below.refl w.heap.size w) q).trans hb3
      clear hb3
      have HOB0 := Lib.hid hob
      clear hob
      go_loop [15, 16] (fun sb si => ∃ (i : Nat) (ob : Bool), i ≤ M ∧ sb = .bool ob ∧ si = .int .i64 i ∧ (ob = false → sideI sos = E ∧ sideI eos = E ∧ ∀ j, j < i → 0 ≤ wayI (alI (ith K j)) → wayI (alI (ith K j)) = E)) (fun _ si => M - (intOf si).toNat)
      case atStart => exact ⟨0, ob, by omega, rfl, rfl, fun h => ⟨(HOB0.out h).1, (HOB0.out h).2, fun j hj => absurd hj (by omega)⟩⟩
      case round =>
        obtain ⟨i, o2, hi, rfl, rfl, ho2⟩ := hrel
        have HOB := Lib.hid ho2
        clear ho2
        by_cases hlt : i < M
        · obtain ⟨kb, ko, rfl, hkb, hkc2⟩ := hK.at hbW i (by have := HKL.out; omega)
          obtain ⟨G, hG, hGb, hGl, hGc, hGf, _, _⟩ := hO.at i (by have := HOL.out; omega)
          subst hG
          have hkeep := HOK.out.keep i (by have := HKL.out; omega)
          have hturn := HOK.out.turn i (by have := HKL.out; omega)
          have hext : ∀ (E' : Int), (∀ j, j < i → 0 ≤ wayI (alI (ith K j)) → wayI (alI (ith K j)) = E') → (0 ≤ wayI (alI (ith K i)) → wayI (alI (ith K i)) = E') → ∀ j, j < i + 1 → 0 ≤ wayI (alI (ith K j)) → wayI (alI (ith K j)) = E' := fun E' h1 h2 j hj => by
            by_cases e : j = i
            · subst e; exact h2
            · exact h1 j (by omega)
          have HEXT := Lib.hid hext
          clear hext
          generalize hy : ith K i = y at hkc2 hkeep hturn HEXT
          generalize hz : ith ans i = z at hGc hkeep hturn
          have HY := Lib.hid hy
          have HZ := Lib.hid hz
          clear hy hz hkb hGb hGl hGf
          by_cases c0 : y = 0
          · subst c0
            obtain rfl : z = 0 := hkeep (by decide)
            clear hkeep hturn
            cases o2
            · rcases hE2 with rfl | rfl
              · go_wp2_with (fail)
                go_round
                case rel => exact ⟨i + 1, _, by omega, rfl, by go_num, fun _ => ⟨(HOB.out rfl).1, (HOB.out rfl).2.1, HEXT.out _ (HOB.out rfl).2.2 (fun _ => by decide)⟩⟩
                case measure => simp [intOf]; omega
              · go_wp2_with (fail)
                go_round
                case rel => exact ⟨i + 1, _, by omega, rfl, by go_num, (fun h => by cases h)⟩
                case measure => simp [intOf]; omega
            · go_wp2_with (fail)
              go_round
              case rel => exact ⟨i + 1, _, by omega, rfl, by go_num, (fun h => by cases h)⟩
              case measure => simp [intOf]; omega
          · have c0' : (y == 0) = false := by simpa using c0
            by_cases c2 : y = 2
            · subst c2
              obtain rfl : z = 1 := hkeep (by decide)
              clear hkeep hturn
              cases o2
              · rcases hE2 with rfl | rfl
                · go_wp2_with (fail)
                  go_round
                  case rel => exact ⟨i + 1, _, by omega, rfl, by go_num, (fun h => by cases h)⟩
                  case measure => simp [intOf]; omega
                · go_wp2_with (fail)
                  go_round
                  case rel => exact ⟨i + 1, _, by omega, rfl, by go_num, fun _ => ⟨(HOB.out rfl).1, (HOB.out rfl).2.1, HEXT.out _ (HOB.out rfl).2.2 (fun _ => by decide)⟩⟩
                  case measure => simp [intOf]; omega
              · go_wp2_with (fail)
                go_round
                case rel => exact ⟨i + 1, _, by omega, rfl, by go_num, (fun h => by cases h)⟩
                case measure => simp [intOf]; omega
            · have c2' : (y == 2) = false := by simpa using c2
              by_cases c1 : y = 1
              · subst c1
                obtain rfl : z = 1 := hkeep (by decide)
                clear hkeep hturn
                cases o2
                · rcases hE2 with rfl | rfl
                  · go_wp2_with (fail)
                    go_round
                    case rel => exact ⟨i + 1, _, by omega, rfl, by go_num, (fun h => by cases h)⟩
                    case measure => simp [intOf]; omega
                  · go_wp2_with (fail)
                    go_round
                    case rel => exact ⟨i + 1, _, by omega, rfl, by go_num, fun _ => ⟨(HOB.out rfl).1, (HOB.out rfl).2.1, HEXT.out _ (HOB.out rfl).2.2 (fun _ => by decide)⟩⟩
                    case measure => simp [intOf]; omega
                · go_wp2_with (fail)
                  go_round
                  case rel => exact ⟨i + 1, _, by omega, rfl, by go_num, (fun h => by cases h)⟩
                  case measure => simp [intOf]; omega
              · have c1' : (y == 1) = false := by simpa using c1
                by_cases c3 : y = 3
                · subst c3
                  obtain rfl : z = 3 := hkeep (by decide)
                  clear hkeep hturn
                  cases o2
                  · rcases hE2 with rfl | rfl
                    · go_wp2_with (fail)
                      go_round
                      case rel => exact ⟨i + 1, _, by omega, rfl, by go_num, (fun h => by cases h)⟩
                      case measure => simp [intOf]; omega
                    · go_wp2_with (fail)
                      go_round
                      case rel => exact ⟨i + 1, _, by omega, rfl, by go_num, fun _ => ⟨(HOB.out rfl).1, (HOB.out rfl).2.1, HEXT.out _ (HOB.out rfl).2.2 (fun _ => by decide)⟩⟩
                      case measure => simp [intOf]; omega
                  · go_wp2_with (fail)
                    go_round
                    case rel => exact ⟨i + 1, _, by omega, rfl, by go_num, (fun h => by cases h)⟩
                    case measure => simp [intOf]; omega
                · have c3' : (y == 3) = false := by simpa using c3
                  by_cases c6 : y = 6
                  · subst c6
                    obtain rfl : z = 6 := hkeep (by decide)
                    clear hkeep hturn
                    cases o2
                    · rcases hE2 with rfl | rfl
                      · go_wp2_with (fail)
                        go_round
                        case rel => exact ⟨i + 1, _, by omega, rfl, by go_num, (fun h => by cases h)⟩
                        case measure => simp [intOf]; omega
                      · go_wp2_with (fail)
                        go_round
                        case rel => exact ⟨i + 1, _, by omega, rfl, by go_num, fun _ => ⟨(HOB.out rfl).1, (HOB.out rfl).2.1, HEXT.out _ (HOB.out rfl).2.2 (fun _ => by decide)⟩⟩
                        case measure => simp [intOf]; omega
                    · go_wp2_with (fail)
                      go_round
                      case rel => exact ⟨i + 1, _, by omega, rfl, by go_num, (fun h => by cases h)⟩
                      case measure => simp [intOf]; omega
                  · have c6' : (y == 6) = false := by simpa using c6
                    have hneg : wayI (alI y) < 0 := by
                      unfold alI; rw [if_neg c2]; unfold wayI; rw [if_neg c0, if_neg (by omega)]; omega
                    have HNEG := Lib.hid hneg
                    rcases hturn hneg with hz01 | hz01
                    · subst hz01
                      clear hkeep hturn hneg c0 c1 c2 c3 c6
                      go_wp2_with (fail)
                      go_round
                      case rel => exact ⟨i + 1, o2, by omega, rfl, by go_num, fun h => ⟨(HOB.out h).1, (HOB.out h).2.1, HEXT.out _ (HOB.out h).2.2 (fun h' => by have := HNEG.out; omega)⟩⟩
                      case measure => simp [intOf]; omega
                    · subst hz01
                      clear hkeep hturn hneg c0 c1 c2 c3 c6
                      go_wp2_with (fail)
                      go_round
                      case rel => exact ⟨i + 1, o2, by omega, rfl, by go_num, fun h => ⟨(HOB.out h).1, (HOB.out h).2.1, HEXT.out _ (HOB.out h).2.2 (fun h' => by have := HNEG.out; omega)⟩⟩
                      case measure => simp [intOf]; omega
        · have hi2 : i = M := by omega
          have HI2 := Lib.hid hi2
          clear hi2
          go_wp2_with (fail)
          have hone : o2 = false → ∀ j, j < M → ith ans j = E ∨ ith ans j = 3 ∨ ith ans j = 6 := fun h j hj => by
            have ho := HOB.out h
            exact HOK.out.one ho.1 ho.2.1 (fun x hx => ho.2.2 x (by have := HI2.out; have := HKL.out; omega)) j (by have := HKL.out; omega)
          have HONE := Lib.hid hone
          clear hone HOB HOB0
          go_loop [18] (fun si => ∃ (n : Nat), n ≤ M ∧ si = .int .i64 n) (fun si => M - (intOf si).toNat)
          case atStart => exact ⟨0, by omega, rfl⟩
          case round =>
            obtain ⟨n, hn, rfl⟩ := hrel
            by_cases hnM : n < M
            · cases o2
              · obtain ⟨G, hG, hGb, hGl, hGc, hGf, _, _⟩ := hO.at n (by have := HOL.out; omega)
                subst hG
                have hz := HONE.out rfl n hnM
                generalize ith ans n = z at hGc hz
                rcases hz with rfl | rfl | rfl
                · go_wp2_with (fail)
                  go_round
                  case rel => exact ⟨n + 1, by omega, by go_num⟩
                  case measure => simp [intOf]; omega
                · rcases hE2 with rfl | rfl
                  · go_wp2_with (fail)
                    go_round
                    case rel => exact ⟨n + 1, by omega, by go_num⟩
                    case measure => simp [intOf]; omega
                  · go_wp2_with (fail)
                    go_round
                    case rel => exact ⟨n + 1, by omega, by go_num⟩
                    case measure => simp [intOf]; omega
                · rcases hE2 with rfl | rfl
                  · go_wp2_with (fail)
                    go_round
                    case rel => exact ⟨n + 1, by omega, by go_num⟩
                    case measure => simp [intOf]; omega
                  · go_wp2_with (fail)
                    go_round
                    case rel => exact ⟨n + 1, by omega, by go_num⟩
                    case measure => simp [intOf]; omega
              · go_wp2_with (go_at_call 13; refine (alive_any _).mono ?_; rintro e w4 ⟨rfl, hb4⟩)
                go_ret
                exact ⟨rfl, hbW.trans (hb4.mono hbW.size)⟩
            · go_wp2_with (go_at_call 13; refine (alive_any _).mono ?_; rintro e w4 ⟨rfl, hb4⟩)
              go_ret
              exact ⟨rfl, hbW.trans (hb4.mono hbW.size)⟩
end Go.Proofs.Ytgalccfhofimaaa
