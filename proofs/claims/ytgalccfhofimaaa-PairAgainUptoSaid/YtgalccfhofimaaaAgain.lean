/- The law PairAgain of layer 9: at any characters and kinds (at most 2097152), any level below 256 and any two ends it answers true, and nothing that was there changes. -/
import Derived.Test.YtgalccfhofimaaaStays
import Derived.Test.YtgalccfhofimaaaPlain09D
namespace Go.Proofs.Ytgalccfhofimaaa
open Go.RowKit
set_option linter.unusedVariables false
set_option linter.unusedSimpArgs false

theorem Try.info_rune : (Try.prog.info? 21).map (fun i => (i.zero, i.size, i.bytes)) = some (some (.int .i32 0), 1, 4) := by kernel_rfl
theorem ith_rep (n i : Nat) (v : Int) (h : i < n) : ith (List.replicate n v) i = v := by
  unfold ith; rw [List.getD_eq_getElem?_getD, List.getElem?_replicate, if_pos h]; rfl
theorem side_val (s : Int) : sideI s = 0 ∨ sideI s = 1 := by unfold sideI; split <;> simp
theorem ahead_val (K : List Int) (i : Nat) (sos : Int) (hi : i ≤ K.length) : aheadF K i 0 (sideI sos) = 0 ∨ aheadF K i 0 (sideI sos) = 1 :=
  aheadF_val K (fun v => v = 0 ∨ v = 1) (fun j _ h => by rcases wayI_val (ith K j) with h1 | h1 | h1 <;> omega) i 0 _ (by omega) (side_val sos)
theorem stays_way {K ans : List Int} {E s0 s1 : Int} (h : StaysOk K ans E s0 s1) (hl : ans.length = K.length) : ∀ j, j < ans.length → 0 ≤ wayI (ith ans j) ∧ ith ans j ≠ 2 := fun j hj => by
  by_cases hw : 0 ≤ wayI (alI (ith K j))
  · rw [h.keep j (by omega) hw]; exact ⟨hw, alI_ne _⟩
  · rcases h.turn j (by omega) (by omega) with e | e <;> rw [e] <;> decide

set_option maxRecDepth 100000 in
set_option maxHeartbeats 2000000 in
theorem Again_any (ra ka : Option Addr) (rs ks : List Int) (rc kc : Nat) (level : Nat) (sos eos : Int) (w : World) (hr : Rd .i32 w ra rs) (hk : Rd .i8 w ka ks) (hrn : rs.length ≤ 2097152) (hkn : ks.length ≤ 2097152)
    (hrc : rs.length ≤ rc) (hkc : ks.length ≤ kc) (hrm : rc ≤ maxLen) (hkm : kc ≤ maxLen) (hl : level < 256) :
    Calls Try.prog 7 #[.slice ra rs.length rc, .slice ka ks.length kc, .int .u8 level, .int .i8 sos, .int .i8 eos] w fun e w' => e = .returned (.bool true) ∧ Below w.heap.size w w' := by
  obtain ⟨i21, hi21, hz21, ha21, hb21⟩ := info_parts (Try.info_rune)
  obtain ⟨M, hM⟩ : ∃ M, M = min rs.length ks.length := ⟨_, rfl⟩
  have hM1 : M ≤ rs.length := by omega
  have hM2 : M ≤ ks.length := by omega
  have hshort := fun W => short_any ra ka rs.length ks.length rc kc W hrc hkc hrm hkm
  rw [← hM] at hshort
  have HSHORT := Lib.hid hshort
  clear hshort hM
  have hR := hr.take M
  have hK := hk.take M
  have hRl : (rs.take M).length = M := by simp; omega
  have hKl : (ks.take M).length = M := by simp; omega
  generalize rs.take M = R at hR hRl
  generalize ks.take M = K at hK hKl
  have HRL := Lib.hid hRl
  have HKL := Lib.hid hKl
  clear hRl hKl hr hk
  go_enter Try.func7, Try.ntmps7
  go_upto_region 3 with (first | (go_at_call 17; refine (HSHORT.out _).mono ?_; rintro e w1 ⟨q, rfl, rfl⟩) | (go_at_call 14; refine (Resolve_len _ _ R K _ _ _ _ level sos eos _ HRL.out HKL.out (hR.below (bl_drewN (Below.refl _ _) _)) (hK.below (bl_drewN (Below.refl _ _) _)) (by omega) (by omega) (by omega) (by omega) hl).mono ?_; rintro e w3 ⟨v3, l, hperm, hsort, rfl, hrl, hrown, hb3⟩; obtain ⟨ans, hans⟩ : ∃ a, a = resolveF R K level sos eos l := ⟨_, rfl⟩; have hok := stays_ok R K level sos eos l (HRL.out.trans HKL.out.symm) hperm; rw [← hans] at hok; have hres := res_shape hrl hrown hans.symm (HKL.out.trans HRL.out.symm); rw [HRL.out] at hres; obtain ⟨oa, oc, rfl, hO, hol⟩ := hres; clear hperm hsort hrl hrown hans))
  have hway := stays_way hok (hol.trans HKL.out.symm)
  have hoc := out_cap hO hol
  have hbW := (bl_drewN (Below.refl w.heap.size w) q).trans hb3
  clear hok hb3
  go_upto_region 4 with (go_at_call 14; refine (Resolve_len _ _ R ans _ _ _ _ level eos sos _ HRL.out hol (hR.below hbW) hO.rd (by omega) (by omega) (by omega) hoc hl).mono ?_; rintro e w4 ⟨v4, l2, hperm2, hsort2, rfl, hrl2, hrown2, hb4⟩)
  have hsame := again_same R ans level eos sos l2 (HRL.out.trans hol.symm) hway hperm2
  have hres2 := res_shape hrl2 hrown2 hsame (hol.trans HRL.out.symm)
  rw [HRL.out] at hres2
  obtain ⟨ma, mc, rfl, hO2, _⟩ := hres2
  have hO1 := hO.keep hb4
  have hbW2 := hbW.trans (hb4.mono hbW.size)
  clear hperm2 hsort2 hrl2 hrown2 hsame hb4 hO hway hoc hbW
  have HOL := Lib.hid hol
  clear hol
  go_wp2_with (fail)
  go_loopw [15, 16] (fun v c wr => ∃ i : Nat, i ≤ M ∧ c = .int .i64 i ∧ wr.ownsRow w4.heap.size 21 1 v i ((List.replicate i (97 : Int)).map (Value.int .i32)) ∧ Below w4.heap.size w4 wr) (fun _ c _ => M - (intOf c).toNat)
  case atStart => exact ⟨0, by omega, rfl, World.ownsRow_nil _ _ _ _, Below.refl _ _⟩
  case round =>
    rename_i v _
    obtain ⟨i, hi, rfl, hown, hbel⟩ := hrel
    by_cases hlt : i < M
    · have hsn : (List.replicate (i + 1) (97 : Int)).map (Value.int .i32) = (List.replicate i (97 : Int)).map (Value.int .i32) ++ [.int .i32 97] := by
        rw [List.replicate_succ', List.map_append]; rfl
      have HSN := Lib.hid hsn
      clear hsn
      go_wp2_with (at_builtin; refine wpList_append_own _ rfl (.tmp 46) (.tmp 47) 22 rfl w4.heap.size 21 i21 (.int .i32 0) 1 4 Try.underlying22 hi21 hz21 ha21 hb21 rfl (by decide) _ i _ rfl (hown.alloc _) ⟨_, 0, none⟩ 1 1 [.int .i32 97] rfl rfl (cell_one_new _ _ _) (by simp [Value.oneCell']) (by unfold maxLen; omega) (by omega) (by have := hbel.size; simp; omega) ?_; intro v2 w2 hown2 hg2 _)
      have hb2 := (hbel.alloc hbel.size _).grown hg2 (by have := hbel.size; simp; omega) (fun k hk => (hown.lt k hk).1)
      clear hg2 hown
      go_roundw
      case rel => exact ⟨i + 1, by omega, by go_num, by rw [HSN.out]; exact hown2, hb2⟩
      case measure => simp [intOf]; omega
    · have hie : i = M := by omega
      subst hie
      go_upto_region 9 with (fail)
      have hpl : (List.replicate i (97 : Int)).length = i := by simp
      obtain ⟨pa, pc, rfl, hP⟩ := OutAt.of hown hpl
      have hpc := out_cap hP hpl
      have hbW3 := hbW2.trans (hbel.mono hbW2.size)
      have hO1' := hO1.keep hbel
      have hO2' := hO2.keep hbel
      have hai : ∀ j, j < K.length → (pairI (ith (List.replicate i (97 : Int)) j)).2.2 = false := fun j hj => by
        rw [ith_rep _ _ _ (by have := HKL.out; omega)]; decide
      have HAI := Lib.hid hai
      clear hown hO1 hO2 hbW2 hai
      go_upto_region 10 with (go_at_call 14; refine (Resolve_len _ _ (List.replicate i (97 : Int)) K _ _ _ _ level sos eos _ hpl HKL.out hP.rd (hK.below hbW3) (by omega) (by omega) hpc (by omega) hl).mono ?_; rintro e w5 ⟨v5, l3, hperm3, hsort3, rfl, hrl3, hrown3, hb5⟩)
      obtain ⟨an3, hans3⟩ : ∃ a, a = resolveF (List.replicate i (97 : Int)) K level sos eos l3 := ⟨_, rfl⟩
      have hag := again_ok (List.replicate i (97 : Int)) K level sos eos l3 (hpl.trans HKL.out.symm) HAI.out hperm3
      rw [← hans3] at hag
      have hres3 := res_shape hrl3 hrown3 hans3.symm (HKL.out.trans hpl.symm)
      rw [hpl] at hres3
      obtain ⟨na, nc, rfl, hO3, hnl⟩ := hres3
      have hP1 := hO1'.keep hb5
      have hP2 := hO2'.keep hb5
      have hbW4 := hbW3.trans (hb5.mono hbW3.size)
      have HAG := Lib.hid hag
      have HNL := Lib.hid hnl
      clear hperm3 hsort3 hrl3 hrown3 hans3 hag hnl hO1' hO2' hbW3 hb5 hP hpc hbel HSHORT HAI hpl
      go_wp2_with (fail)
      go_loopw [18, 19] (fun sa si wx => ∃ (j nq : Nat) (ab : Bool), j ≤ i ∧ ab = decide (aheadF K j 0 (sideI sos) = 1) ∧ sa = .bool ab ∧ si = .int .i64 j ∧ wx = w5.drewN nq) (fun _ si _ => i - (intOf si).toNat)
      case atStart => exact ⟨0, 0, _, by omega, by unfold aheadF sideI; by_cases h : sos = 1 <;> simp [h], rfl, rfl, rfl⟩
      case round =>
        obtain ⟨j, nq, ab, hj, hab, rfl, rfl, rfl⟩ := hrel
        by_cases hlt2 : j < i
        · obtain ⟨kb, ko, rfl, hkb, hkc2⟩ := hK.at hbW4 j (by have := HKL.out; omega)
          obtain ⟨G1, hG1, _, _, hGc1, _, _, _⟩ := hP1.at j (by have := HOL.out; omega)
          subst hG1
          obtain ⟨G2, hG2, _, _, hGc2, _, _, _⟩ := hP2.at j (by have := HOL.out; omega)
          subst hG2
          obtain ⟨G3, hG3, _, _, hGc3, _, _, _⟩ := hO3.at j (by have := HNL.out; omega)
          subst hG3
          have hstill := HAG.out.still j (by have := HKL.out; omega)
          have hturn := HAG.out.turn j (by have := HKL.out; omega)
          have hsn := aheadF_snoc K j 0 (sideI sos)
          rw [Nat.zero_add] at hsn
          have hav := ahead_val K j sos (by have := HKL.out; omega)
          generalize aheadF K j 0 (sideI sos) = a at hab hturn hsn hav
          generalize ith K j = y at hkc2 hstill hturn hsn
          generalize ith an3 j = x at hGc3 hstill hturn
          generalize ith ans j = z at hGc1 hGc2
          have HSN := Lib.hid hsn
          clear hsn hkb
          by_cases c0 : y = 0
          · subst c0
            obtain rfl : x = 0 := hstill (by decide)
            clear hstill hturn
            go_wp2_with (fail)
            go_quiet (fail)
            go_wp2_with (fail)
            go_roundw
            case rel => exact ⟨j + 1, _, _, by omega, by rw [HSN.out]; rfl, rfl, by go_num, rfl⟩
            case measure => simp [intOf]; omega
          · have d0 : (y == 0) = false := by simpa using c0
            by_cases c2 : y = 2
            · subst c2
              obtain rfl : x = 1 := hstill (by decide)
              clear hstill hturn
              go_wp2_with (fail)
              go_quiet (fail)
              go_wp2_with (fail)
              go_roundw
              case rel => exact ⟨j + 1, _, _, by omega, by rw [HSN.out]; rfl, rfl, by go_num, rfl⟩
              case measure => simp [intOf]; omega
            · have d2 : (y == 2) = false := by simpa using c2
              by_cases c1 : y = 1
              · subst c1
                obtain rfl : x = 1 := hstill (by decide)
                clear hstill hturn
                go_wp2_with (fail)
                go_quiet (fail)
                go_wp2_with (fail)
                go_roundw
                case rel => exact ⟨j + 1, _, _, by omega, by rw [HSN.out]; rfl, rfl, by go_num, rfl⟩
                case measure => simp [intOf]; omega
              · have d1 : (y == 1) = false := by simpa using c1
                by_cases c3 : y = 3
                · subst c3
                  obtain rfl : x = 3 := hstill (by decide)
                  clear hstill hturn
                  go_wp2_with (fail)
                  go_quiet (fail)
                  go_wp2_with (fail)
                  go_roundw
                  case rel => exact ⟨j + 1, _, _, by omega, by rw [HSN.out]; rfl, rfl, by go_num, rfl⟩
                  case measure => simp [intOf]; omega
                · have d3 : (y == 3) = false := by simpa using c3
                  by_cases c6 : y = 6
                  · subst c6
                    obtain rfl : x = 6 := hstill (by decide)
                    clear hstill hturn
                    go_wp2_with (fail)
                    go_quiet (fail)
                    go_wp2_with (fail)
                    go_roundw
                    case rel => exact ⟨j + 1, _, _, by omega, by rw [HSN.out]; rfl, rfl, by go_num, rfl⟩
                    case measure => simp [intOf]; omega
                  · have d6 : (y == 6) = false := by simpa using c6
                    have hneg : wayI y < 0 := by unfold wayI; rw [if_neg c0, if_neg (by omega)]; omega
                    have ht := hturn hneg
                    have hnx : aheadF K (j + 1) 0 (sideI sos) = a := by rw [HSN.out, if_neg (by omega)]
                    have HNX := Lib.hid hnx
                    clear hnx hstill hturn hneg HSN c0 c1 c2 c3 c6
                    by_cases hodd : (level : Int) % 2 = 1
                    · have hb : ((level : Int) % 2 == 1) = true := by simpa using hodd
                      rw [show ((level % 2 : Nat) : Int) = 1 by omega] at ht
                      clear hodd
                      rcases hav with rfl | rfl <;> rcases ht with rfl | rfl <;> subst hab <;>
                      · go_wp2_with (fail)
                        go_quiet (fail)
                        go_wp2_with (fail)
                        go_roundw
                        case rel => exact ⟨j + 1, _, _, by omega, by simp [HNX.out], rfl, by go_num, rfl⟩
                        case measure => simp [intOf]; omega
                    · have hb : ((level : Int) % 2 == 1) = false := by simpa using hodd
                      rw [show ((level % 2 : Nat) : Int) = 0 by omega] at ht
                      clear hodd
                      rcases hav with rfl | rfl <;> rcases ht with rfl | rfl <;> subst hab <;>
                      · go_wp2_with (fail)
                        go_quiet (fail)
                        go_wp2_with (fail)
                        go_roundw
                        case rel => exact ⟨j + 1, _, _, by omega, by simp [HNX.out], rfl, by go_num, rfl⟩
                        case measure => simp [intOf]; omega
        · go_wp2_with (go_at_call 13; refine (alive_any _).mono ?_; rintro e w6 ⟨rfl, hb6⟩)
          go_ret
          have hx := bl_drewN hbW4 nq
          exact ⟨rfl, hx.trans (hb6.mono hx.size)⟩
end Go.Proofs.Ytgalccfhofimaaa
