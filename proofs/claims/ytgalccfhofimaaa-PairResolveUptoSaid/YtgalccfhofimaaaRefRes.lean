/- Contracts of the document's answer for the directions (layer 9): within, become, rest, Same. -/
import Derived.Test.YtgalccfhofimaaaRefBrk
import Derived.Test.YtgalccfhofimaaaRefDir
import Derived.Test.YtgalccfhofimaaaPlainRes
import Derived.Test.YtgalccfhofimaaaLawBr
namespace Go.Proofs.Ytgalccfhofimaaa
set_option linter.unusedVariables false
set_option linter.unusedSimpArgs false
open Go.RowKit

theorem refWy_any (k : Int) (w : World) : Calls Try.prog 44 #[.int .i8 k] w fun e w' => e = .returned (.int .i8 (wyI k)) ∧ w = w' := refWay_any k w
theorem neu_t {k : Int} (h : wayI k < 0) : neutralB k = true := decide_eq_true h
theorem neu_f {k : Int} (h : ¬ wayI k < 0) : neutralB k = false := decide_eq_false h

def WithinPost (xs : List Int) (p0 p1 : Nat) (e sos : Int) (w : World) (r : Ending) (w' : World) : Prop :=
  r = .returned (.tuple #[.bool (sameF xs e (p1 - (p0 + 1)) (p0 + 1)), .bool (otherF xs e (p1 - (p0 + 1)) (p0 + 1)), .int .i8 (aheadF xs p0 0 sos)]) ∧ Below w.heap.size w w'

set_option maxHeartbeats 1000000 in
theorem within_any (G n cap p0 p1 : Nat) (xs : List Int) (e sos : Int) (w : World) (he : 0 ≤ e) (hG : G < w.heap.size) (h01 : p0 < p1) (h1n : p1 < n) (hn : n ≤ 2097152)
    (hx : ∀ i, i < n → w.cell? ⟨G, i, none⟩ = some (.int .i8 (ith xs i))) :
    Calls Try.prog 30 #[.slice (some ⟨G, 0, none⟩) n cap, .agg #[.int .i64 p0, .int .i64 p1], .int .i8 e, .int .i8 sos] w (WithinPost xs p0 p1 e sos w) := by
  go_enter Try.func30, Try.ntmps30
  go_wp2_with (fail)
  obtain ⟨w0, hw0⟩ : ∃ w0, w0 = w.alloc (.cells #[.int .i64 p0, .int .i64 p1] 29) := ⟨_, rfl⟩
  have hb0 : Below w.heap.size w w0 := by rw [hw0]; exact (Below.refl _ _).alloc (Nat.le_refl _) _
  have hq0 : w0.cell? ⟨w.heap.size, 0, none⟩ = some (.int .i64 p0) := by rw [hw0]; unfold World.cell?; rw [heap_alloc_new]; rfl
  have hq1 : w0.cell? ⟨w.heap.size, 1, none⟩ = some (.int .i64 p1) := by rw [hw0]; unfold World.cell?; rw [heap_alloc_new]; rfl
  rw [← hw0]
  clear hw0
  have HX := Lib.hid (fun i hi => cell_bl hb0 hG (hx i hi))
  clear hx
  go_loopw [11, 12, 13] (fun a b c wx => wx = w0 ∧ ∃ (i m : Nat) (s o : Bool), i + m = p1 ∧ p0 < i ∧ a = .bool s ∧ b = .bool o ∧ c = .int .i64 i ∧ (s || sameF xs e m i) = sameF xs e (p1 - (p0 + 1)) (p0 + 1) ∧ (o || otherF xs e m i) = otherF xs e (p1 - (p0 + 1)) (p0 + 1)) (fun _ _ c _ => p1 - (intOf c).toNat)
  case atStart => exact ⟨rfl, p0 + 1, p1 - (p0 + 1), false, false, by omega, by omega, rfl, rfl, by go_num, by simp, by simp⟩
  case round =>
    obtain ⟨hwx, i, m, s, o, him, hpi, rfl, rfl, rfl, hS, hO⟩ := hrel
    have hwx' := hwx.symm
    clear hwx
    subst hwx'
    have HIM := Lib.hid him
    have HS := Lib.hid hS
    have HO := Lib.hid hO
    clear him hS hO
    by_cases hlt : i < p1
    · obtain ⟨m, rfl⟩ : ∃ q, m = q + 1 := ⟨m - 1, by have := HIM.out; omega⟩
      have hc := HX.out i (by omega)
      have hs1 : ∀ y, ith xs i = y → sameF xs e (m + 1) i = (decide (wayI y = e) || sameF xs e m (i + 1)) := fun y hy => by rw [sameF, hy]
      have ho1 : ∀ y, ith xs i = y → otherF xs e (m + 1) i = ((decide (0 ≤ wayI y) && decide (wayI y ≠ e)) || otherF xs e m (i + 1)) := fun y hy => by rw [otherF, hy]
      generalize hy : ith xs i = y at hc
      have HS1 := Lib.hid (hs1 y hy)
      have HO1 := Lib.hid (ho1 y hy)
      clear hs1 ho1 hy
      have hv := wayI_val y
      by_cases hneg : wayI y < 0
      · have hnb := neu_t hneg
        have HE1 := Lib.hid (decide_eq_false (show ¬ wayI y = e by omega))
        have HE2 := Lib.hid (decide_eq_false (show ¬ 0 ≤ wayI y by omega))
        clear hneg hv
        go_wp2_with (first | (go_at_call 43; refine (refNeutral_any _ _).mono ?_; rintro e w' ⟨rfl, rfl⟩) | (go_at_call 44; refine (refWy_any _ _).mono ?_; rintro e w' ⟨rfl, rfl⟩))
        go_roundw
        case rel => exact ⟨trivial, i + 1, m, s, o, by have := HIM.out; omega, by omega, rfl, rfl, by go_num, by rw [← HS.out, HS1.out, HE1.out]; rfl, by rw [← HO.out, HO1.out, HE2.out]; rfl⟩
        case measure => simp [intOf]; omega
      · have hnb := neu_f hneg
        have hwy := wyI_way (show 0 ≤ wayI y by omega)
        by_cases heq : wayI y = e
        · have c1 : (wyI y == e) = true := by rw [hwy, heq]; simp
          have HE1 := Lib.hid (decide_eq_true heq)
          have HE2 := Lib.hid (decide_eq_false (show ¬ wayI y ≠ e from fun h => h heq))
          clear hneg hv hwy heq
          go_wp2_with (first | (go_at_call 43; refine (refNeutral_any _ _).mono ?_; rintro e w' ⟨rfl, rfl⟩) | (go_at_call 44; refine (refWy_any _ _).mono ?_; rintro e w' ⟨rfl, rfl⟩))
          go_roundw
          case rel => exact ⟨trivial, i + 1, m, true, o, by have := HIM.out; omega, by omega, rfl, rfl, by go_num, by rw [← HS.out, HS1.out, HE1.out]; simp, by rw [← HO.out, HO1.out, HE2.out]; simp⟩
          case measure => simp [intOf]; omega
        · have c1 : (wyI y == e) = false := by rw [hwy]; simpa using heq
          have HE1 := Lib.hid (decide_eq_false heq)
          have HE2 := Lib.hid (decide_eq_true (show wayI y ≠ e from heq))
          have HE3 := Lib.hid (decide_eq_true (show 0 ≤ wayI y by omega))
          clear hneg hv hwy heq
          go_wp2_with (first | (go_at_call 43; refine (refNeutral_any _ _).mono ?_; rintro e w' ⟨rfl, rfl⟩) | (go_at_call 44; refine (refWy_any _ _).mono ?_; rintro e w' ⟨rfl, rfl⟩))
          go_roundw
          case rel => exact ⟨trivial, i + 1, m, s, true, by have := HIM.out; omega, by omega, rfl, rfl, by go_num, by rw [← HS.out, HS1.out, HE1.out]; rfl, by rw [← HO.out, HO1.out, HE2.out, HE3.out]; simp⟩
          case measure => simp [intOf]; omega
    · obtain ⟨hip, hm0⟩ : i = p1 ∧ m = 0 := by
        have := HIM.out
        by_cases h0 : m = 0
        · exact ⟨by omega, h0⟩
        · omega
      subst hm0 hip
      have HSF : Hid (s = sameF xs e (i - (p0 + 1)) (p0 + 1)) := by have := HS.out; rw [sameF, Bool.or_false] at this; exact this
      have HOF : Hid (o = otherF xs e (i - (p0 + 1)) (p0 + 1)) := by have := HO.out; rw [otherF, Bool.or_false] at this; exact this
      clear HS HO HIM
      go_wp2_with (fail)
      go_loopw [14, 15] (fun a c wx => wx = w0 ∧ ∃ (i m : Nat) (ah : Int), i + m = p0 ∧ a = .int .i8 ah ∧ c = .int .i64 i ∧ aheadF xs m i ah = aheadF xs p0 0 sos) (fun _ c _ => p0 - (intOf c).toNat)
      case atStart => exact ⟨rfl, 0, p0, sos, by omega, rfl, rfl, rfl⟩
      case round =>
        obtain ⟨hwx, i', m, ah, him, rfl, rfl, hA⟩ := hrel
        have hwx' := hwx.symm
        clear hwx
        subst hwx'
        have HIM := Lib.hid him
        have HA := Lib.hid hA
        clear him hA
        by_cases hlt' : i' < p0
        · obtain ⟨m, rfl⟩ : ∃ q, m = q + 1 := ⟨m - 1, by have := HIM.out; omega⟩
          have hc := HX.out i' (by omega)
          have ha1 : ∀ y, ith xs i' = y → aheadF xs (m + 1) i' ah = if 0 ≤ wayI y then aheadF xs m (i' + 1) (wayI y) else aheadF xs m (i' + 1) ah := fun y hy => by rw [aheadF, hy]
          generalize hy : ith xs i' = y at hc
          have HA1 := Lib.hid (ha1 y hy)
          clear ha1 hy
          by_cases hneg : wayI y < 0
          · have hnb := neu_t hneg
            have HN := Lib.hid (HA1.out.trans (if_neg (by omega)))
            clear hneg
            go_wp2_with (first | (go_at_call 43; refine (refNeutral_any _ _).mono ?_; rintro e w' ⟨rfl, rfl⟩) | (go_at_call 44; refine (refWy_any _ _).mono ?_; rintro e w' ⟨rfl, rfl⟩))
            go_roundw
            case rel => exact ⟨trivial, i' + 1, m, ah, by have := HIM.out; omega, rfl, by go_num, by rw [← HA.out, HN.out]⟩
            case measure => simp [intOf]; omega
          · have hnb := neu_f hneg
            have HN := Lib.hid ((HA1.out.trans (if_pos (by omega))).trans (by rw [← wyI_way (show 0 ≤ wayI y by omega)]))
            clear hneg
            go_wp2_with (first | (go_at_call 43; refine (refNeutral_any _ _).mono ?_; rintro e w' ⟨rfl, rfl⟩) | (go_at_call 44; refine (refWy_any _ _).mono ?_; rintro e w' ⟨rfl, rfl⟩))
            go_roundw
            case rel => exact ⟨trivial, i' + 1, m, wyI y, by have := HIM.out; omega, rfl, by go_num, by rw [← HA.out, HN.out]⟩
            case measure => simp [intOf]; omega
        · obtain hm0 : m = 0 := by have := HIM.out; omega
          subst hm0
          have HAF : Hid (ah = aheadF xs p0 0 sos) := HA
          clear HA HIM
          go_wp2_with (fail)
          go_ret3
          refine ⟨?_, hb0⟩
          rw [← HSF.out, ← HOF.out, ← HAF.out]
          rfl

/-- what 'become' leaves: the list changed in place, nothing else -/
def BecomePost (rs xs : List Int) (M b : Nat) (k : Int) (base G cap : Nat) (w : World) (e : Ending) (w' : World) : Prop :=
  e = .returned (.tuple #[]) ∧ (markF rs M k b xs).length = M ∧ OutAt .i8 33 w' base (some ⟨G, 0, none⟩) cap (markF rs M k b xs) ∧ w.grownBy w' (some G)
set_option maxHeartbeats 1000000 in
theorem become_any (ra : Option Addr) (rs xs : List Int) (rc M b base G cap : Nat) (k : Int) (w0 w : World) (hr : Rd .i32 w0 ra rs) (hbel : Below w0.heap.size w0 w) (hbase : w0.heap.size ≤ G) (hO : OutAt .i8 33 w base (some ⟨G, 0, none⟩) cap xs) (hl : xs.length = M)
    (hMr : M ≤ rs.length) (hrn : rs.length ≤ 2097152) (hb : b < M) :
    Calls Try.prog 32 #[.slice ra rs.length rc, .slice (some ⟨G, 0, none⟩) M cap, .int .i64 b, .int .i8 k] w (BecomePost rs xs M b k base G cap w) := by
  obtain ⟨G', hG', hGb, hGl, hGc, hGf, _, _⟩ := hO.at b (by omega)
  cases hG'
  have HL := Lib.hid hl
  clear hl
  go_enter Try.func32, Try.ntmps32
  go_wp2_with (fail)
  have hO1 := hO.set b k
  have hg1 : w.grownBy (w.setCell ⟨G, b, none⟩ (.int .i8 k)) (some G) := (World.ownsRow.stored hO b (.int .i8 k)).2
  clear hO hGc hGf
  go_loopw [8] (fun c wx => ∃ (i m : Nat) (zs : List Int), i + m = M ∧ c = .int .i64 i ∧ zs.length = M ∧ OutAt .i8 33 wx base (some ⟨G, 0, none⟩) cap zs ∧ w.grownBy wx (some G) ∧ spreadF rs k m i zs = markF rs M k b xs) (fun c _ => M - (intOf c).toNat)
  case atStart => exact ⟨b + 1, M - (b + 1), xs.set b k, by omega, by go_num, by rw [List.length_set]; exact HL.out, hO1, hg1, rfl⟩
  case round =>
    obtain ⟨i, m, zs, him, rfl, hzl, hZ, hgz, hF⟩ := hrel
    have HIM := Lib.hid him
    have HZL := Lib.hid hzl
    have HF := Lib.hid hF
    clear him hzl hF hO1 hg1
    by_cases hi : i < M
    · obtain ⟨m, rfl⟩ : ∃ m', m = m' + 1 := ⟨m - 1, by have := HIM.out; omega⟩
      obtain ⟨G1, hG1, hG1b, hG1l, hG1c, hG1f, _, _⟩ := hZ.at i (by have := HZL.out; omega)
      cases hG1
      obtain ⟨rb, ro, hra, hrb, hrc⟩ := hr.at hbel i (by omega)
      subst hra
      have hrc' := hgz.cell hrc (by intro e; simp only [Option.some.injEq] at e; omega)
      have hstep : ∀ y x, ith zs i = y → ith rs i = x → spreadF rs k (m + 1) i zs = if wayI y < 0 ∧ dirI x = 8 then spreadF rs k m (i + 1) (zs.set i k) else zs := fun y x hy hx => by rw [spreadF, hy, hx]
      generalize hy : ith zs i = y at hG1c
      generalize hx : ith rs i = x at hrc' hrc
      have HN := Lib.hid (hstep y x hy hx)
      clear hstep hx hy hrc
      by_cases hd : dirI x = 8
      · have hd' : (dirI x == 8) = true := by rw [hd]; rfl
        by_cases hw : wayI y < 0
        · have hnb := neu_t hw
          have HN2 := Lib.hid (HN.out.trans (if_pos ⟨hw, hd⟩))
          clear hd hw
          go_wp2_with (first | (go_at_call 45; refine (RefDir_any _ _).mono ?_; rintro e w6 ⟨rfl, hw6⟩; subst hw6) | (go_at_call 43; refine (refNeutral_any _ _).mono ?_; rintro e w' ⟨rfl, rfl⟩))
          go_roundw
          case rel => exact ⟨i + 1, m, zs.set i k, by have := HIM.out; omega, by go_num, by rw [List.length_set]; exact HZL.out, hZ.set i k, grownBy_trans hgz (World.ownsRow.stored hZ i (.int .i8 k)).2, by rw [← HF.out, HN2.out]⟩
          case measure => simp [intOf]; omega
        · have hnb := neu_f hw
          have HN2 := Lib.hid (HN.out.trans (if_neg (fun h => hw h.1)))
          clear hd hw
          go_wp2_with (first | (go_at_call 45; refine (RefDir_any _ _).mono ?_; rintro e w6 ⟨rfl, hw6⟩; subst hw6) | (go_at_call 43; refine (refNeutral_any _ _).mono ?_; rintro e w' ⟨rfl, rfl⟩))
          go_end0
          have hz := HN2.out.symm.trans HF.out
          exact ⟨rfl, by rw [← hz]; exact HZL.out, by rw [← hz]; exact hZ, hgz⟩
      · have hd' : (dirI x == 8) = false := by simpa using hd
        have HN2 := Lib.hid (HN.out.trans (if_neg (fun h => hd h.2)))
        clear hd
        go_wp2_with (first | (go_at_call 45; refine (RefDir_any _ _).mono ?_; rintro e w6 ⟨rfl, hw6⟩; subst hw6) | (go_at_call 43; refine (refNeutral_any _ _).mono ?_; rintro e w' ⟨rfl, rfl⟩))
        go_end0
        have hz := HN2.out.symm.trans HF.out
        exact ⟨rfl, by rw [← hz]; exact HZL.out, by rw [← hz]; exact hZ, hgz⟩
    · have hm0 : m = 0 := by have := HIM.out; omega
      have HZE : Hid (zs = markF rs M k b xs) := by subst hm0; exact HF
      go_wp2_with (fail)
      go_end0
      exact ⟨rfl, by rw [← HZE.out]; exact HZL.out, by rw [← HZE.out]; exact hZ, hgz⟩

def RestPost (xs : List Int) (M : Nat) (e sos eos : Int) (w : World) (r : Ending) (w' : World) : Prop :=
  ∃ v, r = .returned v ∧ (restR M e sos eos xs (M + 1) 0 xs).length = M ∧ w'.ownsRow w.heap.size 33 1 v M ((restR M e sos eos xs (M + 1) 0 xs).map (Value.int .i8)) ∧ Below w.heap.size w w'
set_option maxRecDepth 100000 in
set_option maxHeartbeats 1000000 in
theorem rest_any (ka : Option Addr) (xs : List Int) (M kc : Nat) (e sos eos : Int) (w : World) (hk : Rd .i8 w ka xs) (hl : xs.length = M) (hn : M ≤ 2097152) :
    Calls Try.prog 33 #[.slice ka M kc, .int .i8 e, .int .i8 sos, .int .i8 eos] w (RestPost xs M e sos eos w) := by
  obtain ⟨i33, hi33, hz33, ha33, hb33⟩ := info_parts (Try.info_i8)
  have HL := Lib.hid hl
  have hsrc := rd_src hk (Below.refl _ _)
  rw [hl] at hsrc
  have hml : (xs.map (Value.int .i8)).length = M * 1 := by simp; omega
  clear hl
  go_enter Try.func33, Try.ntmps33
  go_upto_region 3 with (at_builtin; refine wpList_append_src _ rfl (.tmp 15) (.tmp 16) 23 rfl w.heap.size 33 i33 _ 1 1 Try.underlying23 hi33 hz33 ha33 hb33 rfl (by omega) (.slice none 0 0) 0 [] rfl (World.ownsRow_nil _ _ _ _) ka M kc (xs.map (Value.int .i8)) rfl hml hsrc (ints_one _ _) (by unfold maxLen; omega) (by omega) (Nat.le_refl _) ?_; intro v1 w1 hown1 hg1)
  rw [Nat.zero_add, List.nil_append] at hown1
  have hb1 := (Below.refl w.heap.size w).grown hg1 (Nat.le_refl _) (fun k hk => by cases hk)
  clear hg1 hsrc hml
  obtain ⟨ao, cap, rfl, hO⟩ := OutAt.of hown1 HL.out
  clear hown1
  go_wp2_with (fail)
  go_loopw [10] (fun c wx => ∃ (i f : Nat) (zs : List Int), i ≤ M ∧ c = .int .i64 i ∧ zs.length = M ∧ OutAt .i8 33 wx w.heap.size ao cap zs ∧ Below w.heap.size w wx ∧ M - i < f ∧ restR M e sos eos xs f i zs = restR M e sos eos xs (M + 1) 0 xs) (fun c _ => M - (intOf c).toNat)
  case atStart => exact ⟨0, M + 1, xs, by omega, rfl, HL.out, hO, hb1, by omega, rfl⟩
  case round =>
    obtain ⟨i, f, zs, hiM, rfl, hzl, hZ, hbel, hf, hF⟩ := hrel
    have HZL := Lib.hid hzl
    have HF := Lib.hid hF
    have HK := Lib.hid (fun j (hj : j < M) => hk.at hbel j (by have := HL.out; omega))
    clear hzl hF hO hb1
    by_cases hlt : i < M
    · obtain ⟨f, rfl⟩ : ∃ g, f = g + 1 := ⟨f - 1, by omega⟩
      obtain ⟨kb, ko, hka, hkb, hkc⟩ := HK.out i hlt
      subst hka
      have hcells : ∀ j, j < M → wr.cell? ⟨kb, ko + j, none⟩ = some (.int .i8 (ith xs j)) := fun j hj => by
        obtain ⟨kb', ko', h1, _, h2⟩ := HK.out j hj
        cases h1
        exact h2
      have HC := Lib.hid hcells
      clear hcells
      have hstep : ∀ y, ith xs i = y → (0 ≤ wayI y → restR M e sos eos xs (f + 1) i zs = restR M e sos eos xs f (i + 1) zs) ∧
          (¬ 0 ≤ wayI y → restR M e sos eos xs (f + 1) i zs = restR M e sos eos xs f (runF xs (M - i) i) (fillF (fillR M e sos eos i (runF xs (M - i) i) xs) (runF xs (M - i) i - i) i zs)) := fun y hy => by
        refine ⟨fun h => ?_, fun h => ?_⟩
        · rw [restR, if_pos hlt, hy, if_pos h]
        · rw [restR, if_pos hlt, hy, if_neg h]
      have hlow : wayI (ith xs i) < 0 → i + 1 ≤ runF xs (M - i) i := fun h => by
        obtain ⟨q, hq⟩ : ∃ q, M - i = q + 1 := ⟨M - i - 1, by omega⟩
        rw [hq, runF, if_pos h]
        exact (runF_neutral xs q (i + 1)).2.1
      generalize hy : ith xs i = y at hkc hlow
      have HST := Lib.hid (hstep y hy)
      clear hstep hy
      by_cases hneg : wayI y < 0
      · have hnb := neu_t hneg
        have HN := Lib.hid (HST.out.2 (by omega))
        have hrn := runF_neutral xs (M - i) i
        have hJ1 := hlow hneg
        have hJ2 := hrn.2.2.1
        clear hrn hlow
        generalize hJ : runF xs (M - i) i = J at HN hJ1 hJ2
        have HJ := Lib.hid hJ
        clear hJ hneg HST
        go_wp2_with (go_at_call 43; refine (refNeutral_any _ _).mono ?_; rintro e w' ⟨rfl, rfl⟩)
        go_loopw [11] (fun c wx => wx = wr ∧ ∃ (j m : Nat), j + m = M ∧ i ≤ j ∧ c = .int .i64 j ∧ runF xs m j = J) (fun c _ => M - (intOf c).toNat)
        case atStart => exact ⟨rfl, i, M - i, by omega, by omega, rfl, HJ.out⟩
        case round =>
          obtain ⟨hwx, j, m, hjm, hij, rfl, hR⟩ := hrel
          have hwx' := hwx.symm
          clear hwx
          subst hwx'
          have HJM := Lib.hid hjm
          have HR := Lib.hid hR
          clear hjm hR
          by_cases hgo : j < M ∧ wayI (ith xs j) < 0
          · obtain ⟨hjl, hneg2⟩ := hgo
            obtain ⟨m, rfl⟩ : ∃ q, m = q + 1 := ⟨m - 1, by have := HJM.out; omega⟩
            have hc := HC.out j hjl
            have hr1 : ∀ y, ith xs j = y → runF xs (m + 1) j = if wayI y < 0 then runF xs m (j + 1) else j := fun y hy => by rw [runF, hy]
            generalize hy : ith xs j = y2 at hc hneg2
            have hnb2 := neu_t hneg2
            have HRN := Lib.hid ((hr1 y2 hy).trans (if_pos hneg2))
            clear hneg2 hy hr1
            go_wp2_with (go_at_call 43; refine (refNeutral_any _ _).mono ?_; rintro e w' ⟨rfl, rfl⟩)
            go_roundw
            case rel => exact ⟨trivial, j + 1, m, by have := HJM.out; omega, by omega, by go_num, by rw [← HR.out, HRN.out]⟩
            case measure => simp [intOf]; omega
          · have HJE : Hid (j = J) := by
              have h1 := HR.out
              have h2 := HJM.out
              cases m with
              | zero => exact h1
              | succ m =>
                rw [runF, if_neg (fun h => hgo ⟨by omega, h⟩)] at h1
                exact h1
            have hjM : j ≤ M := by have := HJM.out; omega
            go_upto_region 8 with (fail)
            go_cut [41] (fun t wx => t = .bool false ∧ wx = wr)
            case first =>
              by_cases hjl : j < M
              · have hc := HC.out j hjl
                have hneg2 : ¬ wayI (ith xs j) < 0 := fun h => hgo ⟨hjl, h⟩
                clear hgo
                generalize ith xs j = y2 at hc hneg2
                have hnb2 := neu_f hneg2
                clear hneg2
                go_wp2_with (go_at_call 43; refine (refNeutral_any _ _).mono ?_; rintro e w' ⟨rfl, rfl⟩)
                all_goals (go_meet; exact ⟨rfl, rfl⟩)
              · clear hgo
                go_wp2_with (go_at_call 43; refine (refNeutral_any _ _).mono ?_; rintro e w' ⟨rfl, rfl⟩)
                all_goals (go_meet; exact ⟨rfl, rfl⟩)
            case rest =>
              obtain ⟨rfl, hwx⟩ := hcut
              have hwx' := hwx.symm
              clear hwx
              subst hwx'
              clear hgo HR HJM
              have h := HJE.out
              clear HJE
              subst h
              obtain ⟨A, hA⟩ : ∃ A, (if 0 < i then wyI (ith xs (i - 1)) else sos) = A := ⟨_, rfl⟩
              obtain ⟨B, hB⟩ : ∃ B, (if j < M then wyI (ith xs j) else eos) = B := ⟨_, rfl⟩
              obtain ⟨kk, hK⟩ : ∃ kk, fillR M e sos eos i j xs = kk := ⟨_, rfl⟩
              rw [hK] at HN
              have HA := Lib.hid hA
              have HB := Lib.hid hB
              have HK2 := Lib.hid (show kk = if A = B then A else e by rw [← hK, fillR, hA, hB])
              clear hA hB hK
              go_upto_if 46 with (fail)
              go_cut [12] (fun t wx => t = .int .i8 A ∧ wx = wr)
              case first =>
                by_cases h0 : 0 < i
                · have HA2 := Lib.hid (HA.out.symm.trans (if_pos h0))
                  have hc := HC.out (i - 1) (by omega)
                  generalize ith xs (i - 1) = y2 at hc HA2
                  obtain ⟨i', hi'⟩ : ∃ i', i = i' + 1 := ⟨i - 1, by omega⟩
                  subst hi'
                  rw [Nat.add_sub_cancel] at hc
                  go_wp2_with (go_at_call 44; refine (refWy_any _ _).mono ?_; rintro e w' ⟨rfl, rfl⟩)
                  all_goals (go_meet; exact ⟨by rw [HA2.out], rfl⟩)
                · have HA2 := Lib.hid (HA.out.symm.trans (if_neg h0))
                  go_wp2_with (fail)
                  all_goals (go_meet; exact ⟨by rw [HA2.out], rfl⟩)
              case rest =>
                obtain ⟨rfl, hwx⟩ := hcut
                have hwx' := hwx.symm
                clear hwx
                subst hwx'
                go_upto_if 57 with (fail)
                go_cut [13] (fun t wx => t = .int .i8 B ∧ wx = wr)
                case first =>
                  by_cases h0 : j < M
                  · have HB2 := Lib.hid (HB.out.symm.trans (if_pos h0))
                    have hc := HC.out j h0
                    generalize ith xs j = y2 at hc HB2
                    go_wp2_with (go_at_call 44; refine (refWy_any _ _).mono ?_; rintro e w' ⟨rfl, rfl⟩)
                    all_goals (go_meet; exact ⟨by rw [HB2.out], rfl⟩)
                  · have HB2 := Lib.hid (HB.out.symm.trans (if_neg h0))
                    go_wp2_with (fail)
                    all_goals (go_meet; exact ⟨by rw [HB2.out], rfl⟩)
                case rest =>
                  obtain ⟨rfl, hwx⟩ := hcut
                  have hwx' := hwx.symm
                  clear hwx
                  subst hwx'
                  go_upto_if 66 with (fail)
                  go_cut [14] (fun t wx => t = .int .i8 kk ∧ wx = wr)
                  case first =>
                    by_cases h0 : A = B
                    · have HK3 := Lib.hid (HK2.out.trans (if_pos h0))
                      have hb : (A == B) = true := by simpa using h0
                      clear h0
                      go_wp2_with (fail)
                      all_goals (go_meet; exact ⟨by rw [HK3.out], rfl⟩)
                    · have HK3 := Lib.hid (HK2.out.trans (if_neg h0))
                      have hb : (A == B) = false := by simpa using h0
                      clear h0
                      go_wp2_with (fail)
                      all_goals (go_meet; exact ⟨by rw [HK3.out], rfl⟩)
                  case rest =>
                    obtain ⟨rfl, hwx⟩ := hcut
                    have hwx' := hwx.symm
                    clear hwx
                    subst hwx'
                    clear HK2 HA HB
                    go_wp2_with (fail)
                    go_loopw [10] (fun c wx => ∃ (q d : Nat) (ys : List Int), q + d = j ∧ i ≤ q ∧ c = .int .i64 q ∧ ys.length = M ∧ OutAt .i8 33 wx w.heap.size ao cap ys ∧ Below w.heap.size w wx ∧ fillF kk d q ys = fillF kk (j - i) i zs) (fun c _ => j - (intOf c).toNat)
                    case atStart => exact ⟨i, j - i, zs, by omega, by omega, rfl, HZL.out, hZ, hbel, rfl⟩
                    case round =>
                      obtain ⟨q, d, ys, hqd, hiq, rfl, hyl, hY, hbY, hFY⟩ := hrel
                      have HQD := Lib.hid hqd
                      have HYL := Lib.hid hyl
                      have HFY := Lib.hid hFY
                      clear hqd hyl hFY hZ hbel hkc HK HC
                      have hMj : M - j < M - i := by omega
                      by_cases hq : q < j
                      · obtain ⟨d, rfl⟩ : ∃ d', d = d' + 1 := ⟨d - 1, by have := HQD.out; omega⟩
                        obtain ⟨G, hG, hGb, hGl, hGc, hGf, _, _⟩ := hY.at q (by have := HYL.out; omega)
                        subst hG
                        go_wp2_with (fail)
                        go_roundw
                        case rel => exact ⟨q + 1, d, ys.set q kk, by have := HQD.out; omega, by omega, by go_num, by rw [List.length_set]; exact HYL.out, hY.set q kk, hbY.setCell (p := ⟨G, q, none⟩) (by exact hGb) _, by rw [← HFY.out]; rfl⟩
                        case measure => simp [intOf]; omega
                      · have hd0 : d = 0 ∧ q = j := by have := HQD.out; omega
                        have HYE : Hid (ys = fillF kk (j - i) i zs) := by have := HFY.out; rw [hd0.1] at this; exact this
                        have hqj := hd0.2
                        have hMj2 : M - q < f := by omega
                        clear hd0 HFY HQD
                        subst hqj
                        go_wp2_with (fail)
                        go_roundw
                        case rel => exact ⟨q, f, ys, by omega, rfl, HYL.out, hY, hbY, hMj2, by rw [← HF.out, HN.out, HYE.out]⟩
                        case measure => simp [intOf]; omega
      · have hnb := neu_f hneg
        have HN := Lib.hid (HST.out.1 (by omega))
        clear hneg HST hlow
        go_wp2_with (go_at_call 43; refine (refNeutral_any _ _).mono ?_; rintro e w' ⟨rfl, rfl⟩)
        go_roundw
        case rel => exact ⟨i + 1, f, zs, by omega, by go_num, HZL.out, hZ, hbel, by omega, by rw [← HF.out, HN.out]⟩
        case measure => simp [intOf]; omega
    · have HZE : Hid (zs = restR M e sos eos xs (M + 1) 0 xs) := by
        have := HF.out
        cases f with
        | zero => exact this
        | succ f => rw [restR, if_neg hlt] at this; exact this
      go_wp2_with (fail)
      go_ret
      refine ⟨_, rfl, by rw [← HZE.out]; exact HZL.out, ?_, hbel⟩
      rw [← HZE.out]
      unfold OutAt at hZ
      rw [HZL.out] at hZ
      exact hZ
end Go.Proofs.Ytgalccfhofimaaa
