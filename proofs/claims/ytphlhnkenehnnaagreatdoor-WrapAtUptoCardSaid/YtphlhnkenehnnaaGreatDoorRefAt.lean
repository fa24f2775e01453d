/- Contract of shuttleref14.At; it answers as wrap.At. No conditions. -/
import Derived.Test.YtphlhnkenehnnaaGreatDoorRowL
namespace Go.Proofs.YtphlhnkenehnnaaGreatDoor
set_option linter.unusedVariables false
set_option linter.unusedSimpArgs false
open Go.RowKit Go.Proofs Go.Shelf
attribute [local go_sem] Oper.semAt_some

def refG (c : Int) : List Int → Nat → Int → Int
  | [], _, k => k
  | r :: t, i, k => refG c t (i + 1) (if r ≤ c then (i : Int) else k)
theorem refG_atG (c : Int) : ∀ (L : List Int) (i : Nat) (k : Int), 0 < i → refG c L i k = atG c L i k
  | [], i, k, h => rfl
  | r :: t, i, k, h => by
    rw [refG, atG, refG_atG c t (i + 1) _ (by omega)]
    congr 1
    by_cases h1 : r ≤ c
    · rw [if_pos h1, if_pos (.inl h1)]
    · rw [if_neg h1, if_neg (fun h' => h'.elim h1 (by omega))]
theorem refG_eq (c : Int) (L : List Int) (h : L ≠ []) : refG c L 0 0 = atG c L 0 (-1) := by
  cases L with
  | nil => exact absurd rfl h
  | cons r t =>
    rw [refG, atG, refG_atG c t (0 + 1) _ (by omega)]
    congr 1
    rw [if_pos (show r ≤ c ∨ 0 = 0 from .inr rfl)]
    split <;> rfl
set_option maxHeartbeats 1000000 in
theorem rAt_any (pa : Option Addr) (ca n : Nat) (l : List RowV) (hn : l.length = n) (hz : n ≤ 2097152) (c cx : Int) (back : Bool) (w : World) (ha : RdR w pa l) :
    Calls Tryz.prog 15 #[.slice pa n ca, .agg #[.int .i64 c, .bool back, .int .i64 cx]] w fun e w' => e = .returned (.int .i64 (atI (atsOf l) c back)) ∧ Below w.heap.size w w' := by
  by_cases h0 : n = 0
  · subst h0
    have hl : l = [] := List.eq_nil_of_length_eq_zero hn
    subst hl
    clear ha
    go_enter Tryz.func15, Tryz.ntmps15
    go_wp2_with (fail)
    go_ret
    refine ⟨ret_i ?_, (Below.refl _ _).alloc (Nat.le_refl _) _⟩
    unfold atI
    rw [if_neg (fun h => by have h := h.2.1; simp [atsOf, atG] at h)]
    rfl
  have hne : atsOf l ≠ [] := fun h => h0 (by have := congrArg List.length h; unfold atsOf at this; rw [List.length_map, hn] at this; exact this)
  obtain ⟨V, hV⟩ : ∃ V, atI (atsOf l) c back = V := ⟨_, rfl⟩
  rw [hV]
  unfold atI at hV
  obtain ⟨K, hK, hKn, _⟩ := atG_ne c (atsOf l) hne
  rw [hK] at hV
  rw [← refG_eq c _ hne] at hK
  have hal : (atsOf l).length = n := by unfold atsOf; rw [List.length_map, hn]
  rw [hal] at hKn
  have HV := Lib.hid hV
  have HK := Lib.hid hK
  have HA := Lib.hid ha
  have c00 : ((n : Int) == 0) = false := by rw [beq_eq_false_iff_ne]; omega
  clear hV hK ha hal hne
  go_enter Tryz.func15, Tryz.ntmps15
  go_upto_region 1 with (fail)
  have hb0 : Below w.heap.size w (w.alloc (.cells #[.int .i64 c, .bool back, .int .i64 cx] 34)) := (Below.refl _ _).alloc (Nat.le_refl _) _
  have hx0 : (w.alloc (.cells #[.int .i64 c, .bool back, .int .i64 cx] 34)).heap[w.heap.size]? = some (.cells #[.int .i64 c, .bool back, .int .i64 cx] 34 (0, 0)) := World.alloc_heap_new w _
  generalize w.alloc (.cells #[.int .i64 c, .bool back, .int .i64 cx] 34) = W0 at hb0 hx0 ⊢
  have hw0 : w.heap.size < W0.heap.size := (Array.getElem?_eq_some_iff.1 hx0).1
  have y0 : W0.cell? ⟨w.heap.size, 0, none⟩ = some (.int .i64 c) := by simp [World.cell?, hx0]
  have y1 : W0.cell? ⟨w.heap.size, 1, none⟩ = some (.bool back) := by simp [World.cell?, hx0]
  have HB0 := Lib.hid hb0
  clear hb0 hx0
  go_wp2_with (fail)
  go_loopw [5, 6] (fun u5 u6 wx => ∃ (i d : Nat) (k : Int), i ≤ n ∧ u6 = .int .i64 i ∧ u5 = .int .i64 k ∧ refG c (atsOf (l.drop i)) i k = K ∧ wx = W0.drewN d) (fun _ u6 _ => n - (intOf u6).toNat)
  case atStart => exact ⟨0, 0, 0, by omega, rfl, rfl, HK.out, rfl⟩
  case round =>
    obtain ⟨i, d, k, hi, rfl, rfl, hG, rfl⟩ := hrel
    have HG := Lib.hid hG
    clear hG
    by_cases hlt : i < n
    · obtain ⟨r, hr⟩ : ∃ r, l[i]? = some r := ⟨_, List.getElem?_eq_getElem (by omega)⟩
      obtain ⟨b1, o1, rfl, _, x0, _⟩ := (HA.out.below HB0.out).at i r hr
      have hG : refG c (atsOf (l.drop (i + 1))) (i + 1) (if r.a ≤ c then (i : Int) else k) = K := by
        have := HG.out
        rw [dropR_cons hr] at this
        exact this
      clear hr HG
      by_cases h1 : r.a ≤ c
      · rw [if_pos h1] at hG
        have HG := Lib.hid hG
        clear hG
        go_wp2_with (fail)
        go_quiet (fail)
        go_wp2_with (fail)
        go_roundw
        case rel => exact ⟨i + 1, _, i, by omega, by go_num, rfl, HG.out, rfl⟩
        case measure => simp [intOf]; omega
      · rw [if_neg h1] at hG
        have HG := Lib.hid hG
        clear hG
        go_wp2_with (fail)
        go_quiet (fail)
        go_wp2_with (fail)
        go_roundw
        case rel => exact ⟨i + 1, _, k, by omega, by go_num, rfl, HG.out, rfl⟩
        case measure => simp [intOf]; omega
    · obtain rfl : i = n := by omega
      have hk : k = K := by
        have := HG.out
        rwa [List.drop_eq_nil_of_le (by omega)] at this
      subst hk
      obtain ⟨r, hr⟩ : ∃ r, l[K]? = some r := ⟨_, List.getElem?_eq_getElem (by omega)⟩
      obtain ⟨b1, o1, rfl, _, x0, _⟩ := (HA.out.below HB0.out).at K r hr
      have hat := ats_get hr
      have hv := HV.out
      rw [Int.toNat_natCast, hat] at hv
      have HV2 := Lib.hid hv
      clear hv HV hr hat HG
      go_upto_region 9 with (fail)
      by_cases hB : back = true ∧ 0 < K
      · obtain ⟨rfl, hk0⟩ := hB
        have g1 : 0 < K := by omega
        by_cases he : r.a = c
        · subst he
          go_quiet (fail)
          go_wp2_with (fail)
          go_ret
          exact ⟨ret_i (by rw [← HV2.out, if_pos (by simpa using g1)]), bl_drewN HB0.out _⟩
        · have c2 : (r.a == c) = false := by simpa using he
          go_quiet (fail)
          go_wp2_with (fail)
          go_ret
          exact ⟨ret_i (by rw [← HV2.out, if_neg (fun h => he h.2.2)]), bl_drewN HB0.out _⟩
      · have hv := HV2.out
        rw [if_neg (fun h => hB ⟨h.1, by have := h.2.1; omega⟩)] at hv
        have HV3 := Lib.hid hv
        clear hv HV2
        cases back with
        | false =>
          clear hB
          go_quiet (fail)
          go_wp2_with (fail)
          go_ret
          first | exact ⟨ret_i HV3.out, bl_drewN (bl_drewN HB0.out _) _⟩ | exact ⟨ret_i HV3.out, bl_drewN HB0.out _⟩
        | true =>
          have g1 : ¬ 0 < K := fun h => hB ⟨rfl, by omega⟩
          clear hB
          go_quiet (fail)
          go_wp2_with (fail)
          go_ret
          first | exact ⟨ret_i HV3.out, bl_drewN (bl_drewN HB0.out _) _⟩ | exact ⟨ret_i HV3.out, bl_drewN HB0.out _⟩
end Go.Proofs.YtphlhnkenehnnaaGreatDoor
