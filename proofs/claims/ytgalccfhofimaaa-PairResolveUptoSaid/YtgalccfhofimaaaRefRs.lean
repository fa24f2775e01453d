/- Contract of the document's answer for the directions (shuttleref09.Resolve), and of Same: it answers what pair.Resolve answers. -/
import Derived.Test.YtgalccfhofimaaaRefRes
import Derived.Test.YtgalccfhofimaaaResolve
namespace Go.Proofs.Ytgalccfhofimaaa
set_option linter.unusedVariables false
set_option linter.unusedSimpArgs false
open Go.RowKit

theorem RefBrackets_len (ra ka : Option Addr) (rs ks : List Int) (nr nk rc kc : Nat) (w : World) (hnr : rs.length = nr) (hnk : ks.length = nk) (hr : Rd .i32 w ra rs) (hk : Rd .i8 w ka ks) (hrn : nr ≤ 2097152) (hkn : nk ≤ 2097152) :
    Calls Try.prog 10 #[.slice ra nr rc, .slice ka nk kc] w (BrkPost rs ks w) := by
  subst hnr hnk
  exact RefBrackets_any ra ka rs ks rc kc w hr hk hrn hkn
theorem decI_flags (xs : List Int) (p0 p1 : Nat) (e ahead : Int) (he : 0 ≤ e) :
    decI xs p0 p1 e ahead = if sameF xs e (p1 - (p0 + 1)) (p0 + 1) = true then e else if otherF xs e (p1 - (p0 + 1)) (p0 + 1) = true then ahead else -1 := decF_flags xs e ahead he _ _ (-1)
theorem ahead_bd (xs : List Int) : ∀ (m i : Nat) (a : Int), 0 ≤ a → a ≤ 1 → 0 ≤ aheadF xs m i a ∧ aheadF xs m i a ≤ 1
  | 0, i, a, h0, h1 => ⟨h0, h1⟩
  | m + 1, i, a, h0, h1 => by
    have hv := wayI_val (ith xs i)
    unfold aheadF
    split
    · exact ahead_bd xs m (i + 1) _ (by omega) (by omega)
    · exact ahead_bd xs m (i + 1) a h0 h1

theorem rr_end {rs ks out xs RES : List Int} {level M : Nat} {sos eos E : Int} {l : List (Nat × Nat)} {w wr w' : World} {v : Value}
    (hM : M = min rs.length ks.length) (hOUT : (ks.take M).map alI = out) (hE : ((level % 2 : Nat) : Int) = E) (hperm : l.Perm (brkF (rs.take M) out M 0 [] [])) (hsort : l.Pairwise (fun a b => a.1 ≤ b.1))
    (hin : ∀ p ∈ l, 0 ≤ p.1 ∧ p.1 < p.2) (hRES : RES = rresF rs M E (sideI sos) l out) (hXE : xs = RES) (hl : (restR M E (sideI sos) (sideI eos) xs (M + 1) 0 xs).length = M)
    (hown : w'.ownsRow wr.heap.size 33 1 v M ((restR M E (sideI sos) (sideI eos) xs (M + 1) 0 xs).map (Value.int .i8))) (hbx : Below w.heap.size w wr) (hb : Below wr.heap.size wr w') :
    ResPost rs ks level sos eos w (.returned v) w' := by
  have hal : alF M 0 (ks.take M) = out := by rw [alF_map M (ks.take M) (by rw [List.length_take]; omega)]; exact hOUT
  have hz : resolveF rs ks level sos eos l = restR M E (sideI sos) (sideI eos) xs (M + 1) 0 xs := by
    rw [← restR_eq M E (sideI sos) (sideI eos) xs (M + 1) 0 xs (fun _ _ => rfl) (.inl rfl), hXE, hRES, ← resF_eq rs M E (sideI sos) l 0 (sideI sos) out hsort hin rfl, ← hal, ← hE, hM]
    rfl
  subst hM
  refine ⟨v, l, ?_, hsort, rfl, by rw [hz]; exact hl, by rw [hz]; exact ownsRow_base hown hbx.size, hbx.trans (hb.mono hbx.size)⟩
  rw [hal]
  exact hperm
/-- what the loop over the pairs keeps -/
def RrRel (rs : List Int) (M : Nat) (E S : Int) (B2 : Nat) (w : World) (ao : Option Addr) (cap : Nat) (pa : Option Addr) (pcap : Nat) (l : List (Nat × Nat)) (RES : List Int) (sh : Value) (wx : World) : Prop :=
  ∃ (t : Nat) (xs : List Int), t ≤ l.length ∧ sh = .int .i64 t ∧ xs.length = M ∧ OutAt .i8 33 wx w.heap.size ao cap xs ∧ PairsAt wx B2 pa pcap l ∧ Below w.heap.size w wx ∧ B2 ≤ wx.heap.size ∧ rresF rs M E S (l.drop t) xs = RES

set_option maxRecDepth 100000 in
set_option maxHeartbeats 400000 in
theorem RefResolve_any (ra ka : Option Addr) (rs ks : List Int) (rc kc : Nat) (level : Nat) (sos eos : Int) (w : World) (hr : Rd .i32 w ra rs) (hk : Rd .i8 w ka ks) (hrn : rs.length ≤ 2097152) (hkn : ks.length ≤ 2097152)
    (hrc : rs.length ≤ rc) (hrcm : rc ≤ maxLen) (hl : level < 256) :
    Calls Try.prog 15 #[.slice ra rs.length rc, .slice ka ks.length kc, .int .u8 level, .int .i8 sos, .int .i8 eos] w (ResPost rs ks level sos eos w) := by
  unfold maxLen at hrcm
  obtain ⟨M, hM⟩ : ∃ M, M = min rs.length ks.length := ⟨_, rfl⟩
  have hM1 : M ≤ rs.length := by omega
  have hM2 : M ≤ ks.length := by omega
  have hcount := refCount_any ra ka rs.length ks.length rc kc w
  rw [← hM] at hcount
  have HM := Lib.hid hM
  clear hM
  obtain ⟨i33, hi33, hz33, ha33, hb33⟩ := info_parts (Try.info_i8)
  go_enter Try.func15, Try.ntmps15
  go_wp2_with (go_at_call 21; refine hcount.mono ?_; rintro e w' ⟨rfl, hw'⟩; subst hw')
  clear hcount
  go_loopw [12, 13] (fun v c wx => ∃ i : Nat, i ≤ M ∧ c = .int .i64 i ∧ wx.ownsRow w.heap.size 33 1 v i (((ks.take i).map alI).map (Value.int .i8)) ∧ Below w.heap.size w wx) (fun _ c _ => M - (intOf c).toNat)
  case atStart => exact ⟨0, by omega, rfl, World.ownsRow_nil _ _ _ _, Below.refl _ _⟩
  case round =>
    obtain ⟨i, hi, rfl, hown, hbel⟩ := hrel
    by_cases hlt : i < M
    · obtain ⟨kb, ko, rfl, hkb, hkc2⟩ := hk.at hbel i (by omega)
      have hsn : ((ks.take (i + 1)).map alI).map (Value.int .i8) = ((ks.take i).map alI).map (Value.int .i8) ++ [.int .i8 (alI (ith ks i))] := by
        have e : ks[i]'(by omega) = ith ks i := by rw [ith, List.getD_eq_getElem?_getD, List.getElem?_eq_getElem (by omega)]; rfl
        rw [List.take_succ_eq_append_getElem (by omega), e, List.map_append, List.map_append]
        simp only [List.map_cons, List.map_nil]
      generalize ith ks i = y at hkc2 hsn
      have HSN := Lib.hid hsn
      clear hsn
      have hsz := hbel.size
      by_cases h2 : y = 2
      · subst h2
        go_wp2_with (at_builtin; refine wpList_append_own _ rfl (.tmp 36) (.tmp 38) 23 rfl w.heap.size 33 i33 (.int .i8 0) 1 1 Try.underlying23 hi33 hz33 ha33 hb33 rfl (by decide) u12 i _ rfl (hown.alloc _) ⟨wr.heap.size, 0, none⟩ 1 1 [.int .i8 1] rfl rfl (cell_one_new _ _ _) (by simp [Value.oneCell']) (by unfold maxLen; omega) (by omega) (by simp; omega) ?_; intro v2 w2 hown2 hg2 _)
        have hb2 := (hbel.alloc hbel.size _).grown hg2 (by simp; omega) (fun k hk => (hown.lt k hk).1)
        clear hg2 hown
        go_roundw
        case rel => exact ⟨i + 1, by omega, by go_num, by rw [HSN.out]; exact hown2, hb2⟩
        case measure => simp [intOf]; omega
      · have h2' : (y == 2) = false := by simpa using h2
        have hal : alI y = y := if_neg h2
        rw [hal] at HSN
        clear h2 hal
        go_wp2_with (at_builtin; refine wpList_append_own _ rfl (.tmp 36) (.tmp 38) 23 rfl w.heap.size 33 i33 (.int .i8 0) 1 1 Try.underlying23 hi33 hz33 ha33 hb33 rfl (by decide) u12 i _ rfl (hown.alloc _) ⟨wr.heap.size, 0, none⟩ 1 1 [.int .i8 y] rfl rfl (cell_one_new _ _ _) (by simp [Value.oneCell']) (by unfold maxLen; omega) (by omega) (by simp; omega) ?_; intro v2 w2 hown2 hg2 _)
        have hb2 := (hbel.alloc hbel.size _).grown hg2 (by simp; omega) (fun k hk => (hown.lt k hk).1)
        clear hg2 hown
        go_roundw
        case rel => exact ⟨i + 1, by omega, by go_num, by rw [HSN.out]; exact hown2, hb2⟩
        case measure => simp [intOf]; omega
    · have him : i = M := by omega
      rw [him] at hown
      clear him
      have hol : ((ks.take M).map alI).length = M := by simp; omega
      obtain ⟨ao, cap, hv, hO⟩ := OutAt.of hown hol
      subst hv
      clear hown
      have hE0 : 0 ≤ ((level % 2 : Nat) : Int) ∧ ((level % 2 : Nat) : Int) ≤ 1 := by omega
      obtain ⟨E, hE⟩ : ∃ E, ((level % 2 : Nat) : Int) = E := ⟨_, rfl⟩
      rw [hE] at hE0
      have HE := Lib.hid hE
      clear hE
      have hS0 : 0 ≤ sideI sos ∧ sideI sos ≤ 1 := by unfold sideI; split <;> omega
      have HR := Lib.hid (hr.take M)
      have HRL := Lib.hid (show (rs.take M).length = M by rw [List.length_take]; omega)
      have HOL := Lib.hid hol
      have HO := Lib.hid hO
      clear hol hO
      generalize hout : (ks.take M).map alI = out at HOL HO
      have HOUT := Lib.hid hout
      clear hout
      go_upto_if 42 with (fail)
      go_cut [15] (fun t wx => t = .int .i8 E ∧ wx = wr)
      case first =>
        by_cases hodd : (level : Int) % 2 = 1
        · have HE2 := Lib.hid (show E = 1 by have := HE.out; omega)
          have hb : ((level : Int) % 2 == 1) = true := by simpa using hodd
          go_wp2_with (fail)
          all_goals (go_meet; exact ⟨by rw [HE2.out], rfl⟩)
        · have HE2 := Lib.hid (show E = 0 by have := HE.out; omega)
          have hb : ((level : Int) % 2 == 1) = false := by simpa using hodd
          go_wp2_with (fail)
          all_goals (go_meet; exact ⟨by rw [HE2.out], rfl⟩)
      case rest =>
        obtain ⟨rfl, hwx⟩ := hcut
        have hwx' := hwx.symm
        clear hwx
        subst hwx'
        have hMrc : (M : Int) ≤ (rc : Int) := by omega
        have hM0 : (0 : Int) ≤ (M : Int) := by omega
        go_upto_region 14 with (go_at_call 10; refine (RefBrackets_len _ _ (rs.take M) out _ _ _ _ _ HRL.out HOL.out (HR.out.below hbel) HO.out.rd (by omega) (by omega)).mono ?_; rintro e w2 ⟨pv, l, hperm, hsort, rfl, hpown, hb2⟩)
        rw [HRL.out, HOL.out, Nat.min_self] at hperm
        obtain ⟨pa, pcap, rfl, hP⟩ := PairsAt.of hpown
        have hin : ∀ p ∈ l, 0 ≤ p.1 ∧ p.1 < p.2 := fun p hp => by
          have h := ((brkF_all (rs.take M) out M).perm hperm).ok p hp
          exact ⟨Nat.zero_le _, h.1⟩
        have HIN := Lib.hid hin
        have hmem : ∀ t, t < l.length → (l.getD t (0, 0)).1 < (l.getD t (0, 0)).2 ∧ (l.getD t (0, 0)).2 < M := fun t ht => by
          have h := ((brkF_all (rs.take M) out M).perm hperm).ok _ (getD_mem l (0, 0) t ht)
          exact ⟨h.1, h.2.1⟩
        have HMEM := Lib.hid hmem
        clear hmem
        have hO2 := HO.out.keep hb2
        have hbelW := hbel.trans (hb2.mono hbel.size)
        have hGB : ∀ G, ao = some ⟨G, 0, none⟩ → w.heap.size ≤ G ∧ G < wr.heap.size := fun G hG => by subst hG; exact HO.out.lt
        obtain ⟨RES, hRES⟩ : ∃ R, R = rresF rs M E (sideI sos) l out := ⟨_, rfl⟩
        have HRES := Lib.hid hRES
        clear hRES
        have hB2 := hb2.size
        have hll := pairs_len hP
        unfold maxLen at hll
        generalize hBB : wr.heap.size = B2 at hB2 hP hGB
        clear hBB hbel hb2 hin hpown HO
        have HSORT := Lib.hid hsort
        have HPERM := Lib.hid hperm
        clear hsort hperm
        go_wp2_with (fail)
        go_loopw [17] (fun sh wx => RrRel rs M E (sideI sos) B2 w ao cap pa pcap l RES sh wx) (fun c _ => l.length - (intOf c).toNat)
        case atStart => exact ⟨0, out, by omega, rfl, HOL.out, hO2, hP, hbelW, hB2, by rw [HRES.out]; rfl⟩
        case round =>
          obtain ⟨t, xs, htl, rfl, hxl, hX, hPX, hbx, hBx, hF⟩ := hrel
          have HXL := Lib.hid hxl
          have HF := Lib.hid hF
          clear hxl hF hO2 hP hbelW
          by_cases hlt : t < l.length
          · obtain ⟨hp1, hp2⟩ := HMEM.out t hlt
            obtain ⟨PB, hPB, hPBb, hPBl, hc1, hc2⟩ := hPX.at t hlt
            subst hPB
            have hdrop := drop_cons l (0, 0) t hlt
            generalize hp : l.getD t (0, 0) = p at hp1 hp2 hc1 hc2 hdrop
            have HD := Lib.hid hdrop
            clear hdrop hp
            obtain ⟨p1, p2⟩ := p
            simp only at hp1 hp2 hc1 hc2
            obtain ⟨G, hG, hGb, hGl, _, _, hcap, hcm⟩ := hX.at p2 (by have := HXL.out; omega)
            subst hG
            have hcells : ∀ i, i < M → wr.cell? ⟨G, i, none⟩ = some (.int .i8 (ith xs i)) := fun i hi => by
              obtain ⟨G', hG', _, _, hc, _⟩ := hX.at i (by have := HXL.out; omega)
              cases hG'; exact hc
            have HCELLS := Lib.hid hcells
            clear hcells
            have hAb := ahead_bd xs p1 0 (sideI sos) hS0.1 hS0.2
            have hdb := decI_bd xs p1 p2 E (aheadF xs p1 0 (sideI sos)) hE0.1 hE0.2 hAb.1 hAb.2
            have hdf := decI_flags xs p1 p2 E (aheadF xs p1 0 (sideI sos)) hE0.1
            have HW := Lib.hid (fun W (hb : Below wr.heap.size wr W) => within_any G M cap p1 p2 xs E (sideI sos) W hE0.1 (Nat.lt_of_lt_of_le hGl hb.size) hp1 hp2 (by omega) (fun i hi => cell_bl hb hGl (HCELLS.out i hi)))
            unfold WithinPost at HW
            generalize hS : sameF xs E (p2 - (p1 + 1)) (p1 + 1) = SF at HW hdf
            generalize hOt : otherF xs E (p2 - (p1 + 1)) (p1 + 1) = OF at HW hdf
            generalize hAH : aheadF xs p1 0 (sideI sos) = AH at HW hdf hdb hAb
            generalize hKK : decI xs p1 p2 E AH = kk at hdf hdb
            have HAH := Lib.hid hAH
            have HKK := Lib.hid hKK
            clear hS hOt hAH hKK
            go_upto_region 17 with (fail)
            go_cut [18, 19, 20] (fun a b c wx => a = .bool SF ∧ b = .bool OF ∧ c = .int .i8 AH ∧ ∃ w5, wx = w5 ∧ Below wr.heap.size wr w5)
            case first =>
              clear hX hPX hdb hdf hAb hcap hcm hGB hbx hBx hE0 hS0 hMrc hM0
              go_region_held3 (fun w' => w'.cell? ⟨PB, t * 2, none⟩ = some (.int .i64 p1) ∧ w'.cell? ⟨PB, t * 2 + 1, none⟩ = some (.int .i64 p2)) (go_keep)
                (first | (go_at_call 31; refine (refSide_any _ _).mono ?_; rintro e w' ⟨rfl, rfl⟩) | (go_at_call 30; refine (HW.out _ (by first | exact (Below.refl _ _).drew | exact Below.refl _ _)).mono ?_; rintro e w5 ⟨rfl, hb5⟩; have hd1 := cell_bl hb5 (by exact hPBl) (by exact hc1); have hd2 := cell_bl hb5 (by exact hPBl) (by exact hc2)))
              all_goals
                have hb5' := ((Below.refl wr.heap.size wr).drew).trans hb5
                go_wp2_with (fail)
                go_meet
                exact ⟨rfl, rfl, rfl, w5, rfl, hb5'⟩
            case rest =>
              obtain ⟨rfl, rfl, rfl, w5, hwx, hb5⟩ := hcut
              have hwx' := hwx.symm
              clear hwx
              subst hwx'
              have hX5 := hX.keep hb5
              have hP5 := hPX.keep hb5
              have hbx5 := hbx.trans (hb5.mono hbx.size)
              have hB5 : B2 ≤ w5.heap.size := Nat.le_trans hBx hb5.size
              have hd1 := cell_bl hb5 hPBl hc1
              have hd2 := cell_bl hb5 hPBl hc2
              have hGB2 := (hGB G rfl).2
              clear hX hPX hbx hBx hc1 hc2 hb5 HW HCELLS hGB hGl hPBl hcap hcm
              by_cases hneg : kk < 0
              · have hSO : SF = false ∧ OF = false := by
                  cases SF with
                  | true => rw [if_pos rfl] at hdf; omega
                  | false => cases OF with
                    | true => rw [if_neg (by decide), if_pos rfl] at hdf; omega
                    | false => exact ⟨rfl, rfl⟩
                obtain ⟨rfl, rfl⟩ := hSO
                clear hdf
                go_wp2_with (fail)
                go_roundw
                case rel => exact ⟨t + 1, xs, by omega, by go_num, HXL.out, hX5, hP5, hbx5, hB5, by rw [← HF.out, HD.out, rresF, HAH.out, HKK.out, if_pos hneg]⟩
                case measure => simp [intOf]; omega
              · have hkk : (SF = true ∧ kk = E) ∨ (SF = false ∧ OF = true ∧ kk = AH) := by
                  cases SF with
                  | true => rw [if_pos rfl] at hdf; exact .inl ⟨rfl, hdf⟩
                  | false => cases OF with
                    | true => rw [if_neg (by decide), if_pos rfl] at hdf; exact .inr ⟨rfl, rfl, hdf⟩
                    | false => rw [if_neg (by decide), if_neg (by decide)] at hdf; omega
                have HKC := Lib.hid hkk
                have HNEG := Lib.hid hneg
                clear hdf hdb hkk hneg
                go_upto_region 19 with (fail)
                go_cut [73] (fun t wx => t = .bool false ∧ wx = w5)
                case first =>
                  rcases HKC.out with ⟨h1, _⟩ | ⟨h1, h2, _⟩
                  · subst h1
                    go_wp2_with (fail)
                    all_goals (go_meet; exact ⟨rfl, rfl⟩)
                  · subst h1 h2
                    go_wp2_with (fail)
                    all_goals (go_meet; exact ⟨rfl, rfl⟩)
                case rest =>
                  obtain ⟨rfl, hwx⟩ := hcut
                  have hwx' := hwx.symm
                  clear hwx
                  subst hwx'
                  go_upto_region 20 with (fail)
                  go_cut [80] (fun t wx => t = .bool (!SF && (AH != E)) ∧ wx = w5)
                  case first =>
                    cases SF with
                    | true =>
                      go_wp2_with (fail)
                      all_goals (go_meet; exact ⟨rfl, rfl⟩)
                    | false =>
                      go_wp2_with (fail)
                      all_goals (go_meet; exact ⟨by simp, rfl⟩)
                  case rest =>
                    obtain ⟨rfl, hwx⟩ := hcut
                    have hwx' := hwx.symm
                    clear hwx
                    subst hwx'
                    go_upto_if 80 with (fail)
                    go_cut [21] (fun t wx => t = .int .i8 kk ∧ wx = w5)
                    case first =>
                      by_cases hT : (!SF && (AH != E)) = true
                      · have HT := Lib.hid (show kk = AH by
                          rcases HKC.out with ⟨h1, _⟩ | ⟨h1, h2, h3⟩
                          · rw [h1] at hT; cases hT
                          · exact h3)
                        rw [hT]
                        go_wp2_with (fail)
                        all_goals (go_meet; exact ⟨by rw [HT.out], rfl⟩)
                      · have HT := Lib.hid (show kk = E by
                          rcases HKC.out with ⟨h1, h2⟩ | ⟨h1, h2, h3⟩
                          · exact h2
                          · rw [h1] at hT
                            rw [h3]
                            simpa using hT)
                        have hT2 : (!SF && (AH != E)) = false := by simpa using hT
                        rw [hT2]
                        clear hT hT2
                        go_wp2_with (fail)
                        all_goals (go_meet; exact ⟨by rw [HT.out], rfl⟩)
                    case rest =>
                      obtain ⟨rfl, hwx⟩ := hcut
                      have hwx' := hwx.symm
                      clear hwx
                      subst hwx'
                      generalize (!SF && (AH != E)) = T80
                      go_upto_region 23 with (go_at_call 32; refine (become_any ra rs xs rc M p1 w.heap.size G cap kk w w5 hr hbx5 hGb hX5 HXL.out hM1 hrn (by omega)).mono ?_; rintro e w6 ⟨rfl, hl6, hO6, hg6⟩)
                      have hP6 : PairsAt w6 B2 (some ⟨PB, 0, none⟩) pcap l := row_grown hP5 hg6 (fun i j h1 h2 => by cases h1; cases h2; show PB ≠ G; omega)
                      have hb6 := hbx5.grown hg6 hbx5.size (fun k hk => by cases hk; exact hGb)
                      have hd26 := hg6.cell hd2 (by intro e; simp only [Option.some.injEq] at e; omega)
                      have hB6 := Nat.le_trans hB5 hg6.size
                      clear hP5 hd1 hd2 hX5 hg6 hbx5 hB5
                      go_wp2_with (go_at_call 32; refine (become_any ra rs (markF rs M kk p1 xs) rc M p2 w.heap.size G cap kk w w6 hr hb6 hGb hO6 hl6 hM1 hrn (by omega)).mono ?_; rintro e w7 ⟨rfl, hl7, hO7, hg7⟩)
                      have hP7 : PairsAt w7 B2 (some ⟨PB, 0, none⟩) pcap l := row_grown hP6 hg7 (fun i j h1 h2 => by cases h1; cases h2; show PB ≠ G; omega)
                      have hb7 := hb6.grown hg7 hb6.size (fun k hk => by cases hk; exact hGb)
                      have hB7 := Nat.le_trans hB6 hg7.size
                      go_roundw
                      case rel => exact ⟨t + 1, _, by omega, by go_num, hl7, hO7, hP7, hb7, hB7, by rw [← HF.out, HD.out, rresF, HAH.out, HKK.out, if_neg (by have := HNEG.out; omega)]⟩
                      case measure => simp [intOf]; omega
          · have hxe : xs = RES := by
              have := HF.out
              rw [List.drop_of_length_le (by omega)] at this
              exact this
            have HXE := Lib.hid hxe
            clear hxe HF
            go_wp2_with (first | (go_at_call 31; refine (refSide_any _ _).mono ?_; rintro e w' ⟨rfl, rfl⟩) | (go_at_call 33; refine (rest_any ao xs M cap E (sideI sos) (sideI eos) wr hX.rd HXL.out (by omega)).mono ?_; rintro e w5 ⟨v5, rfl, hl5, hown5, hb5⟩))
            go_ret
            exact rr_end HM.out HOUT.out HE.out HPERM.out HSORT.out HIN.out HRES.out HXE.out hl5 hown5 hbx hb5
end Go.Proofs.Ytgalccfhofimaaa
