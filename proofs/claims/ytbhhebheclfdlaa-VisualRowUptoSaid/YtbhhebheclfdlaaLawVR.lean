/- The law VisualRow of layer 10: at any characters, levels and row (at most 2097152 each) it answers true, and nothing that was there changes. -/
import Derived.Test.YtbhhebheclfdlaaRefRow
namespace Go.Proofs.Ytbhhebheclfdlaa
set_option linter.unusedVariables false
set_option linter.unusedSimpArgs false
open Go.RowKit

theorem nats_of {zs : List Int} (h : ∀ x ∈ zs, 0 ≤ x ∧ x ≤ 255) : ∃ ls : List Nat, ints ls = zs ∧ ls.length = zs.length ∧ ∀ l ∈ ls, l ≤ 255 := by
  refine ⟨zs.map Int.toNat, ?_, by simp, fun l hl => ?_⟩
  · unfold ints
    rw [List.map_map]
    conv => rhs; rw [← List.map_id zs]
    refine List.map_congr_left fun x hx => ?_
    have := h x hx
    show ((x.toNat : Nat) : Int) = x
    omega
  · rw [List.mem_map] at hl
    obtain ⟨x, hx, rfl⟩ := hl
    have := h x hx
    omega
theorem OutAt.low {k : IntKind} {e base base' cap : Nat} {w : World} {ao : Option Addr} {out : List Int} (h : OutAt k e w base ao cap out) (hb : base' ≤ base) : OutAt k e w base' ao cap out := ownsRow_base h hb
theorem copy_mark {k : IntKind} {e base n d : Nat} {w : World} {v : Value} {xs ys : List Int} (hl : xs.length = n) (hd : ys.length = d) (h : w.ownsRow base e 1 v (0 + n + d) ([] ++ xs.map (Value.int k) ++ ys.map (Value.int k))) :
    ∃ a c, v = .slice a (n + d) c ∧ n + d ≤ c ∧ OutAt k e w base a c (xs ++ ys) := by
  have h' : w.ownsRow base e 1 v (n + d) ((xs ++ ys).map (Value.int k)) := by
    rw [Nat.zero_add, List.nil_append] at h
    rw [List.map_append]
    exact h
  obtain ⟨a, c, rfl, hO⟩ := OutAt.of h' (by rw [List.length_append, hl, hd])
  have := out_cap' hO
  rw [List.length_append, hl, hd] at this
  exact ⟨a, c, rfl, this, hO⟩
theorem row_len {cs : List Int} {ls l : List Nat} {base : Nat} {fr tt : Int} (h : rowI cs ls base fr tt = some l) : l.length ≤ ls.length := by
  unfold rowI at h
  simp only at h
  split at h
  · cases h
  · rw [Option.some.injEq] at h
    rw [← h, hangF_len, List.length_take, List.length_drop]
    omega
/-- what 'Row' answers, as one list: nil is the empty one -/
theorem row_list {cs : List Int} {ls : List Nat} {base : Nat} {fr tt : Int} {w w' : World} {e : Ending} (h : RowPost (rowI cs ls base fr tt) w e w') (T : List Int) (hT : ints ((rowI cs ls base fr tt).getD []) = T) (tn : Nat) (ht : T.length = tn) :
    Below w.heap.size w w' ∧ ∃ a c, e = .returned (.slice a tn c) ∧ OutAt .u8 5 w' w.heap.size a c T := by
  obtain ⟨h1, h2⟩ := h
  subst hT ht
  refine ⟨h1, ?_⟩
  cases hR : rowI cs ls base fr tt with
  | none => rw [hR] at h2; exact ⟨none, 0, h2, World.ownsRow_nil _ _ _ _⟩
  | some l =>
    rw [hR] at h2
    obtain ⟨a, c, he, ho⟩ := h2
    refine ⟨a, c, ?_, ho⟩
    rw [he, ints_len]
    rfl
theorem Try.info_i32' : (Try.prog.info? 21).map (fun i => (i.zero, i.size, i.bytes)) = some (some (.int .i32 0), 1, 4) := by kernel_rfl
set_option maxRecDepth 100000 in
set_option maxHeartbeats 1000000 in
theorem lent_any (la : Option Addr) (cs : List Int) (n lc : Nat) (w : World) (hl : cs.length = n) (hd : Rd .i32 w la cs) (hn : n ≤ 2097152) :
    Calls Try.prog 11 #[.slice la n lc] w fun e w' => Below w.heap.size w w' ∧ ∃ a c, e = .returned (.slice a n c) ∧ n + 2 ≤ c ∧ OutAt .i32 21 w' w.heap.size a c (cs ++ [65, 66]) := by
  obtain ⟨i5, hi5, hz5, ha5, hb5⟩ := info_parts (Try.info_i32')
  have hs1 := ints_one .i32 cs
  have hm1 : (cs.map (Value.int .i32)).length = n * 1 := by rw [List.length_map, hl, Nat.mul_one]
  have HM1 := Lib.hid hm1
  have HL := Lib.hid hl
  clear hl hm1
  go_enter Try.func11, Try.ntmps11
  have b0 : Below w.heap.size w (w.alloc (.cells #[] 21)) := (Below.refl _ _).alloc (Nat.le_refl _) _
  have hsrc0 := (rd_src hd b0).imp (fun h => by rwa [HL.out] at h) id
  go_wp2_with (first
    | (at_builtin; refine wpList_append_src _ rfl (.tmp 3) (.tmp 4) 22 rfl w.heap.size 21 i5 (.int .i32 0) 1 4 Try.underlying22 hi5 hz5 ha5 hb5 rfl (by decide) _ 0 _ rfl (World.ownsRow_made w #[] 0 (Nat.le_refl _) (Nat.zero_le _) (by simp)) la n lc (cs.map (Value.int .i32)) rfl HM1.out hsrc0 hs1 (by unfold maxLen; omega) (by omega) (by simp) ?_; intro v1 w1 hown1 hg1)
    | (at_builtin; refine wpList_append_own _ rfl (.tmp 5) (.tmp 6) 22 rfl w.heap.size 21 i5 (.int .i32 0) 1 4 Try.underlying22 hi5 hz5 ha5 hb5 rfl (by decide) _ _ _ rfl (hown1.alloc _) ⟨w1.heap.size, 0, none⟩ 2 2 [.int .i32 65, .int .i32 66] rfl rfl (World.news_of_block (cs := #[.int .i32 65, .int .i32 66]) (t := 21) (fr := (0, 0)) (heap_alloc_new _ _)) (by simp [Value.oneCell']) (by unfold maxLen; omega) (by omega) (by have := hg1.size; simp at this ⊢; omega) ?_; intro v2 w2 hown2 hg2 _; obtain ⟨ra, rc, hv2, hrc, hR⟩ := copy_mark (ys := [65, 66]) HL.out rfl hown2; have gn0 : (n : Int) ≤ (rc : Int) := (by omega); subst hv2; have hbr : Below w.heap.size w w2 := ((b0.grown hg1 (by simp) (fun k hk => by cases hk; exact Nat.le_refl _)).alloc (by have := hg1.size; simp at this ⊢; omega) _).grown hg2 (by have := hg1.size; simp at this ⊢; omega) (fun k hk => (hown1.lt k hk).1)))
  go_ret
  exact ⟨hbr, _, _, rfl, hrc, hR⟩
/-- two lists of characters that read alike are said to be the same -/
theorem SameRunes_any (pa pb : Option Addr) (n ca cb : Nat) (w : World) (h : ∃ xs : List Int, xs.length = n ∧ Rd .i32 w pa xs ∧ Rd .i32 w pb xs) (hn : n ≤ 2097152) :
    Calls Try.prog 33 #[.slice pa n ca, .slice pb n cb] w fun e w' => e = .returned (.bool true) ∧ ∃ m, w' = w.drewN m := by
  obtain ⟨xs, hl, ha, hb⟩ := h
  have HL := Lib.hid hl
  clear hl
  go_enter Try.func33, Try.ntmps33
  go_wp2_with (fail)
  go_loopw [5] (fun c wx => ∃ (i m : Nat), i ≤ n ∧ c = .int .i64 i ∧ wx = w.drewN m) (fun c _ => n - (intOf c).toNat)
  case atStart => exact ⟨0, 0, by omega, rfl, rfl⟩
  case round =>
    obtain ⟨i, m, hi, rfl, rfl⟩ := hrel
    by_cases hlt : i < n
    · obtain ⟨G1, o1, rfl, _, hc0⟩ := ha.at (Below.refl _ _) i (by rw [HL.out]; exact hlt)
      obtain ⟨G2, o2, rfl, _, hd0⟩ := hb.at (Below.refl _ _) i (by rw [HL.out]; exact hlt)
      generalize ith xs i = x at hc0 hd0
      have g0 : (0 : Int) ≤ (i : Int) := by omega
      have g1 : (i : Int) < (n : Int) := by omega
      go_wp2_with (fail)
      go_quiet (fail)
      go_wp2_with (fail)
      go_roundw
      case rel => exact ⟨i + 1, _, by omega, by go_num, rfl⟩
      case measure => simp [intOf]; omega
    · go_wp2_with (fail)
      go_ret
      exact ⟨rfl, _, rfl⟩
theorem kept_any (ma la : Option Addr) (cs : List Int) (n mc lc base : Nat) (w : World) (hl : cs.length = n) (hO : OutAt .i32 21 w base ma mc (cs ++ [65, 66])) (hd : Rd .i32 w la cs) (hn : n ≤ 2097152) :
    Calls Try.prog 15 #[.slice ma n mc, .slice la n lc] w fun e w' => e = .returned (.bool true) ∧ ∃ m, w' = w.drewN m := by
  have hcap := out_cap' hO
  rw [List.length_append, hl] at hcap
  simp only [List.length_cons, List.length_nil] at hcap
  obtain ⟨G, hG, _, _, hc0, _⟩ := hO.at n (by rw [List.length_append, hl]; simp)
  obtain ⟨G', hG', _, _, hc1, _⟩ := hO.at (n + 1) (by rw [List.length_append, hl]; simp)
  subst hG
  cases hG'
  rw [show ith (cs ++ [65, 66]) n = 65 from by unfold ith; rw [List.getD_eq_getElem?_getD, List.getElem?_append_right (by omega), hl, Nat.sub_self]; rfl] at hc0
  rw [show ith (cs ++ [65, 66]) (n + 1) = 66 from by unfold ith; rw [List.getD_eq_getElem?_getD, List.getElem?_append_right (by omega), hl, Nat.add_sub_cancel_left]; rfl] at hc1
  have RM := Lib.hid (by have := hO.rd.head n; rwa [List.take_left' hl] at this : Rd .i32 w (some ⟨G, 0, none⟩) cs)
  have HL := Lib.hid hl
  have HD := Lib.hid hd
  have g2 : (n : Int) + 2 ≤ (mc : Int) := by omega
  clear hl hd hO
  go_enter Try.func15, Try.ntmps15
  go_wp2_with (go_at_call 33; refine (SameRunes_any _ _ _ _ _ _ (by exact ⟨cs, HL.out, RM.out, HD.out⟩) hn).mono ?_; rintro e wx ⟨rfl, mx, rfl⟩)
  go_ret
  exact ⟨rfl, _, rfl⟩
set_option maxRecDepth 100000 in
set_option maxHeartbeats 2000000 in
theorem LawVR_any (a la : Option Addr) (cs : List Int) (ls : List Nat) (n m c lc base : Nat) (fr tt : Int) (w : World) (hl : cs.length = n) (hc : Rd .i32 w a cs) (hm : ls.length = m) (hd : Rd .u8 w la (ints ls)) (hn : n ≤ 2097152) (hmn : m ≤ 2097152)
    (hnc : n ≤ c) (hcm : c ≤ 9223372036854775807) (ha : (∃ G o, a = some ⟨G, o, none⟩) ∨ c = 0) :
    Calls Try.prog 3 #[.slice a n c, .slice la m lc, .agg #[.int .u8 base, .int .i64 fr, .int .i64 tt]] w fun e w' => e = .returned (.bool true) ∧ Below w.heap.size w w' := by
  obtain ⟨i5, hi5, hz5, ha5, hb5⟩ := info_parts (Try.info_u8)
  have hil : (ints ls).length = m := by rw [ints_len]; exact hm
  obtain ⟨T, hT⟩ : ∃ T, ints ((rowI cs ls base fr tt).getD []) = T := ⟨_, rfl⟩
  obtain ⟨tn, htn⟩ : ∃ tn, T.length = tn := ⟨_, rfl⟩
  have htm : tn ≤ 2097152 := by
    rw [← htn, ← hT, ints_len]
    cases hR : rowI cs ls base fr tt with
    | none => exact Nat.zero_le _
    | some l => have := row_len hR; show l.length ≤ _; omega
  have HRR := Lib.hid (fun W h1 h2 => (RefRow_any a la cs ls n m c lc base fr tt W hl hm h1 h2 hn hmn hnc hcm ha))
  have HVR := Lib.hid (fun ma mc ra rc W h1 h2 h3 h4 h5 => (Row_any ma ra cs ls n m mc rc base fr tt W hl hm h1 h2 hn hmn h3 h4 h5))
  have HT := Lib.hid hT
  have HTN := Lib.hid htn
  have HCL := Lib.hid hl
  have hs1 := ints_one .u8 (ints ls)
  have HIL := Lib.hid hil
  have hm1 : ((ints ls).map (Value.int .u8)).length = m * 1 := by rw [List.length_map, hil, Nat.mul_one]
  have HM1 := Lib.hid hm1
  have hlent := Lib.hid (fun W h => lent_any a cs n c W hl h hn)
  have hkept := Lib.hid (fun W ma mc base' (h : OutAt .i32 21 W base' ma mc (cs ++ [65, 66])) h2 => kept_any ma a cs n mc c base' W hl h h2 hn)
  clear hT htn hl hil hm1 hm ha hnc hcm
  go_enter Try.func3, Try.ntmps3
  go_upto_region 1 with (fail)
  obtain ⟨w0, hw0⟩ : ∃ w0, w0 = w.alloc (.cells #[.int .u8 base, .int .i64 fr, .int .i64 tt] 25) := ⟨_, rfl⟩
  have hb0 : Below w.heap.size w w0 := by rw [hw0]; exact (Below.refl _ _).alloc (Nat.le_refl _) _
  have hs0 : w0.heap.size = w.heap.size + 1 := by rw [hw0, World.size_alloc]
  have hq : ∀ W, Below w0.heap.size w0 W → W.cell? ⟨w.heap.size, 0, none⟩ = some (.int .u8 base) ∧ W.cell? ⟨w.heap.size, 1, none⟩ = some (.int .i64 fr) ∧ W.cell? ⟨w.heap.size, 2, none⟩ = some (.int .i64 tt) := fun W hW => by
    have h0 : w0.cell? ⟨w.heap.size, 0, none⟩ = some (.int .u8 base) := by rw [hw0]; unfold World.cell?; rw [heap_alloc_new]; rfl
    have h1 : w0.cell? ⟨w.heap.size, 1, none⟩ = some (.int .i64 fr) := by rw [hw0]; unfold World.cell?; rw [heap_alloc_new]; rfl
    have h2 : w0.cell? ⟨w.heap.size, 2, none⟩ = some (.int .i64 tt) := by rw [hw0]; unfold World.cell?; rw [heap_alloc_new]; rfl
    exact ⟨cell_bl hW (by omega) h0, cell_bl hW (by omega) h1, cell_bl hW (by omega) h2⟩
  rw [← hw0]
  clear hw0
  obtain ⟨PB, hPB⟩ : ∃ PB, w.heap.size = PB := ⟨_, rfl⟩
  rw [hPB] at hq
  rw [show (⟨w.heap.size, 0, none⟩ : Addr) = ⟨PB, 0, none⟩ by rw [hPB]]
  have HQ := Lib.hid hq
  clear hq
  go_upto_region 2 with (go_at_call 11; refine (hlent.out _ (hc.below hb0)).mono ?_; rintro e w1 ⟨hb1, ma, mc, rfl, hmc, hM⟩)
  have hRc : Rd .i32 w1 ma cs := by have := hM.rd.head n; rwa [List.take_left' HCL.out] at this
  have hbw1 := hb0.trans (hb1.mono hb0.size)
  have b1 : Below w1.heap.size w1 (w1.alloc (.cells #[] 5)) := (Below.refl _ _).alloc (Nat.le_refl _) _
  have hsrc1 := (rd_src (hd.below hbw1) b1).imp (fun h => by rwa [HIL.out] at h) id
  go_upto_region 3 with (first
    | (at_builtin; refine wpList_append_src _ rfl (.tmp 18) (.tmp 19) 23 rfl w1.heap.size 5 i5 (.int .u8 0) 1 1 Try.underlying23 hi5 hz5 ha5 hb5 rfl (by decide) _ 0 _ rfl (World.ownsRow_made w1 #[] 0 (Nat.le_refl _) (Nat.zero_le _) (by simp)) la m lc ((ints ls).map (Value.int .u8)) rfl HM1.out hsrc1 hs1 (by unfold maxLen; omega) (by omega) (by simp) ?_; intro v3 w3 hown3 hg3)
    | (at_builtin; refine wpList_append_own _ rfl (.tmp 20) (.tmp 21) 23 rfl w1.heap.size 5 i5 (.int .u8 0) 1 1 Try.underlying23 hi5 hz5 ha5 hb5 rfl (by decide) _ _ _ rfl (hown3.alloc _) ⟨w3.heap.size, 0, none⟩ 1 1 [.int .u8 99] rfl rfl (World.news_of_block (cs := #[.int .u8 99]) (t := 5) (fr := (0, 0)) (heap_alloc_new _ _)) (by simp [Value.oneCell']) (by unfold maxLen; omega) (by omega) (by have := hg3.size; simp at this ⊢; omega) ?_; intro v4 w4 hown4 hg4 _))
  obtain ⟨ra, rc, rfl, hrc, hR⟩ := copy_mark (ys := [99]) HIL.out rfl hown4
  have hb4 : Below w1.heap.size w1 w4 := ((b1.grown hg3 (by simp) (fun k hk => by cases hk; exact Nat.le_refl _)).alloc (by have := hg3.size; simp at this ⊢; omega) _).grown hg4 (by have := hg3.size; simp at this ⊢; omega) (fun k hk => (hown3.lt k hk).1)
  clear hown3 hg3 hown4 hg4 hsrc1 b1 hs1 HM1
  obtain ⟨GR, hGR, _, _, _, _, _, hrm⟩ := hR.at m (by rw [List.length_append, HIL.out]; exact Nat.lt_succ_self _)
  subst hGR
  have hRD : Rd .u8 w4 (some ⟨GR, 0, none⟩) (ints ls) := by have := hR.rd.head m; rwa [List.take_left' HIL.out] at this
  have hM4 := hM.keep hb4
  have hMD : Rd .i32 w4 ma cs := hRc.below hb4
  have k14 : Below w0.heap.size w0 w4 := hb1.trans (hb4.mono hb1.size)
  have k04 : Below w.heap.size w w4 := hb0.trans (k14.mono hb0.size)
  have gn0 : (m : Int) ≤ (rc : Int) := by omega
  have hrcm : rc ≤ 9223372036854775807 := by unfold maxLen at hrm; omega
  obtain ⟨q0, q1, q2⟩ := HQ.out _ k14
  go_upto_region 5 with (go_at_call 12; refine (HRR.out _ (hc.below k04) (hd.below k04)).mono ?_; intro e w5 h5; obtain ⟨hb5', wa, wc5, rfl, hW⟩ := row_list h5 T HT.out tn HTN.out)
  have k15 := k14.trans (hb5'.mono k14.size)
  clear q0 q1 q2 h5
  obtain ⟨q0, q1, q2⟩ := HQ.out _ k15
  go_upto_region 6 with (go_at_call 13; refine (HVR.out _ _ _ _ _ (hMD.below hb5') (hRD.below hb5') (by omega) hrcm (.inr ⟨_, _, rfl⟩)).mono ?_; intro e w6 h6; obtain ⟨hb6, aa, ac, rfl, hA⟩ := row_list h6 T HT.out tn HTN.out)
  have k16 := k15.trans (hb6.mono k15.size)
  have k46 := hb5'.trans (hb6.mono hb5'.size)
  clear q0 q1 q2 h6
  obtain ⟨q0, q1, q2⟩ := HQ.out _ k16
  go_upto_region 7 with (go_at_call 13; refine (HVR.out _ _ _ _ _ (hMD.below k46) (hRD.below k46) (by omega) hrcm (.inr ⟨_, _, rfl⟩)).mono ?_; intro e wd h7; obtain ⟨hb7, ba, bc, rfl, hB⟩ := row_list h7 T HT.out tn HTN.out)
  have k1d := k16.trans (hb7.mono k16.size)
  clear q0 q1 q2 h7
  have z01 := hb1.size
  have z14 := hb4.size
  have z45 := hb5'.size
  have z56 := hb6.size
  have z6d := hb7.size
  have q9 : ∀ {k : IntKind} {e base cap : Nat} {W : World} {ao : Option Addr} {out : List Int}, OutAt k e W base ao cap out → ∀ g, (Value.slice ao out.length cap).ownBlock = some g → base ≤ g ∧ g < W.heap.size := fun h g hg => World.ownsRow.lt h g hg
  have rM := q9 hM
  have rR := q9 hR
  have rW := q9 hW
  have rA := q9 hA
  have rB := q9 hB
  have k4d := hb5'.trans ((hb6.trans (hb7.mono hb6.size)).mono hb5'.size)
  have k5d := hb6.trans (hb7.mono hb6.size)
  have kwd : Below w.heap.size w wd := hb0.trans (k1d.mono hb0.size)
  have hAd := hA.keep hb7
  obtain ⟨S, hS⟩ : ∃ S : Nat → Prop, S = fun k => (Value.slice aa T.length ac).ownBlock = some k := ⟨_, rfl⟩
  have hS8 : ∀ g, S g → w5.heap.size ≤ g ∧ g < w6.heap.size := fun g h => by
    rw [hS] at h
    exact rA g h
  have HSA := Lib.hid (show ∀ k, (Value.slice aa T.length ac).ownBlock = some k → S k from fun k h => by rw [hS]; exact h)
  have KM := Lib.hid (fun W (h : Only S wd W) => show OutAt .i32 21 W w0.heap.size ma mc (cs ++ [65, 66]) from h.own (hM4.keep k4d) fun g hg hs => by have h1 := rM g hg; have h2 := hS8 g hs; omega)
  have KR := Lib.hid (fun W (h : Only S wd W) => show OutAt .u8 5 W w1.heap.size (some ⟨GR, 0, none⟩) rc (ints ls ++ [99]) from h.own (hR.keep k4d) fun g hg hs => by have h1 := rR g hg; have h2 := hS8 g hs; omega)
  have KW := Lib.hid (fun W (h : Only S wd W) => show OutAt .u8 5 W w4.heap.size wa wc5 T from h.own (hW.keep k5d) fun g hg hs => by have h1 := rW g hg; have h2 := hS8 g hs; omega)
  have KB := Lib.hid (fun W (h : Only S wd W) => show OutAt .u8 5 W w6.heap.size ba bc T from h.own hB fun g hg hs => by have h1 := rB g hg; have h2 := hS8 g hs; omega)
  have KK := Lib.hid (fun W (h : Only S wd W) => h.below kwd (by omega) (fun k hk => by have h2 := hS8 k hk; omega))
  have HAD := Lib.hid hAd
  have HW5 : Hid (w5.heap.size ≤ wd.heap.size) := Lib.hid (by omega)
  have KWD := Lib.hid (show Only S wd wd from Only.refl _ _)
  clear hb1 hM hRc hbw1 hR hb4 hRD hM4 hMD k14 k04 hb5' hW k15 hb6 hA k16 k46 hb7 hB k1d z01 z14 z45 z56 z6d q9 rM rR rW rA rB k4d k5d kwd hAd hS hS8 HRR HVR HQ hb0 hs0 hlent
  go_upto_region 9 with (go_at_call 14; refine (SameLevels_any _ _ _ _ _ _ (by first
    | exact ⟨T, HTN.out, HAD.out.rd, (KW.out _ KWD.out).rd⟩
    | exact ⟨T, HTN.out, (KB.out _ KWD.out).rd, (KW.out _ KWD.out).rd⟩)).mono ?_; rintro e wx ⟨rfl, hwx⟩; subst hwx)
  go_wp2_with (fail)
  go_loopw [13] (fun u wx => ∃ (i : Nat) (xs : List Int), i ≤ tn ∧ u = .int .i64 i ∧ xs.length = tn ∧ OutAt .u8 5 wx w5.heap.size aa ac xs ∧ Only S wd wx) (fun u _ => tn - (intOf u).toNat)
  case atStart => exact ⟨0, T, by omega, rfl, HTN.out, HAD.out, KWD.out⟩
  case round =>
    obtain ⟨j, ys, hj, rfl, hyl, hC, hK⟩ := hrel
    have HYL := Lib.hid hyl
    by_cases hlt : j < tn
    · obtain ⟨G, rfl, hG1, hG2, hGc, hGf, hy1, hy2⟩ := hC.at j (by rw [hyl]; exact hlt)
      generalize ith ys j = vo at hGc
      have HST := Lib.hid (hC.set j 77)
      have hGS := HSA.out G rfl
      have HK2 := Lib.hid (hK.set hGS j (.int .u8 77))
      have g0 : (0 : Int) ≤ (j : Int) := by omega
      have g1 : (j : Int) < (tn : Int) := by omega
      clear hC hK hyl hGS hy1 hy2
      go_wp2_with (fail)
      go_roundw
      case rel => exact ⟨j + 1, ys.set j 77, by omega, by go_num, by rw [List.length_set]; exact HYL.out, HST.out, HK2.out⟩
      case measure => simp [intOf]; omega
    · have hCo : wr.ownsRow w5.heap.size 5 1 (.slice aa tn ac) tn (ys.map (Value.int .u8)) := by
        have h := hC
        unfold OutAt at h
        rw [hyl] at h
        exact h
      have hsc : ∀ g, (Value.slice aa tn ac).ownBlock = some g → S g ∨ wd.heap.size ≤ g := fun g h1 => .inl (HSA.out g (by rw [← h1]; cases aa <;> rfl))
      have HCO := Lib.hid hCo
      have HS2 := Lib.hid hsc
      have HKK := Lib.hid hK
      obtain rfl : tn = j := by omega
      clear hCo hsc hK hC hyl hlt hj HYL
      go_wp2_with (fail)
      go_loopw [11, 14] (fun u13 u wx => ∃ (i : Nat) (ys : List Value), i ≤ 30 ∧ u = .int .i64 i ∧ wx.ownsRow w5.heap.size 5 1 u13 (tn + i) ys ∧ (∀ g, u13.ownBlock = some g → S g ∨ wd.heap.size ≤ g) ∧ Only S wd wx) (fun _ u _ => 30 - (intOf u).toNat)
      case atStart => exact ⟨0, _, by omega, rfl, HCO.out, HS2.out, HKK.out⟩
      case round =>
        obtain ⟨i, ys, hi, rfl, hC, hsc, hK⟩ := hrel
        clear HCO HS2 HKK
        by_cases hlt : i < 30
        · have hks := hK.size
          have hw5 := HW5.out
          go_wp2_with (at_builtin; refine wpList_append_own_at _ rfl (.tmp 77) (.tmp 78) 23 rfl w5.heap.size 5 i5 (.int .u8 0) 1 1 Try.underlying23 hi5 hz5 ha5 hb5 rfl (by decide) _ (tn + i) _ rfl (hC.alloc _) ⟨wr.heap.size, 0, none⟩ 1 1 [.int .u8 78] rfl rfl (World.news_of_block (cs := #[.int .u8 78]) (t := 5) (fr := (0, 0)) (heap_alloc_new _ _)) (by simp [Value.oneCell']) (by unfold maxLen; omega) (by omega) (by simp; omega) ?_; intro v1 w1 hX1 hg1 _ hloc1)
          replace hg1 : (wr.alloc (.cells #[.int .u8 78] 5)).grownBy w1 u11.ownBlock := hg1
          replace hloc1 : v1.ownBlock = u11.ownBlock ∨ v1.ownBlock = some (wr.alloc (.cells #[.int .u8 78] 5)).heap.size := hloc1
          have s1 : ∀ g, v1.ownBlock = some g → S g ∨ wd.heap.size ≤ g := fun g h => by
            rcases hloc1 with q | q
            · exact hsc g (by rw [← q, h])
            · rw [h, World.size_alloc] at q
              simp only [Option.some.injEq] at q
              omega
          have hK1 := (hK.alloc (.cells #[.int .u8 78] 5)).grown hg1 hsc
          have HR := Lib.hid (And.intro hX1 (And.intro s1 hK1))
          clear hC hsc hK hg1 hloc1 s1 hK1 hX1
          go_roundw
          case rel => exact ⟨i + 1, _, by omega, by go_num, HR.out.1, HR.out.2.1, HR.out.2.2⟩
          case measure => simp [intOf]; omega
        · obtain rfl : 30 = i := by omega
          obtain ⟨aC, cC, rfl, _, _⟩ := own_slice hC
          have RB := Lib.hid (KB.out wr hK).rd
          have RW := Lib.hid (KW.out wr hK).rd
          have RR : Hid (Rd .u8 wr (some ⟨GR, 0, none⟩) (ints ls)) := Lib.hid (by have := (KR.out wr hK).rd.head m; rwa [List.take_left' HIL.out] at this)
          have RL := Lib.hid (hd.below (KK.out wr hK))
          have RC := Lib.hid (hc.below (KK.out wr hK))
          have OM := Lib.hid (KM.out wr hK)
          have HKK := Lib.hid (KK.out wr hK)
          obtain ⟨Gr, hGr, _, _, hcr, _⟩ := (KR.out wr hK).at m (by rw [List.length_append, HIL.out]; exact Nat.lt_succ_self _)
          cases hGr
          rw [show ith (ints ls ++ [99]) m = 99 from by unfold ith; rw [List.getD_eq_getElem?_getD, List.getElem?_append_right (by rw [HIL.out]; exact Nat.le_refl _), HIL.out, Nat.sub_self]; rfl] at hcr
          clear hC hsc hK
          go_wp2_with (first
            | (go_at_call 14; refine (SameLevels_any _ _ _ _ _ _ (by first
                | exact ⟨T, HTN.out, RB.out, RW.out⟩
                | exact ⟨ints ls, HIL.out, RR.out, RL.out⟩)).mono ?_; rintro e wx ⟨rfl, hwx⟩; subst hwx)
            | (go_at_call 15; refine (hkept.out _ _ _ _ (by exact OM.out) (by exact RC.out)).mono ?_; rintro e wx ⟨rfl, mx, rfl⟩)
            | (go_at_call 16; refine (wakes_any _).mono ?_; rintro e wz ⟨rfl, hbz⟩))
          go_ret
          exact ⟨rfl, (bl_drewN HKK.out _).trans (hbz.mono HKK.out.size)⟩
end Go.Proofs.Ytbhhebheclfdlaa
