/- The law VisualOrder of layer 10: at any levels and numbers (at most 2097152 each) it answers true, and nothing that was there changes. -/
import Derived.Test.YtbhhebheclfdlaaRefOrd
import Derived.Test.YtbhhebheclfdlaaOwn
namespace Go.Proofs.Ytbhhebheclfdlaa
set_option linter.unusedVariables false
set_option linter.unusedSimpArgs false
open Go.RowKit

theorem OutAt.low {k : IntKind} {e base base' cap : Nat} {w : World} {ao : Option Addr} {out : List Int} (h : OutAt k e w base ao cap out) (hb : base' ≤ base) : OutAt k e w base' ao cap out := ownsRow_base h hb
theorem nats_of {zs : List Int} (h : ∀ x ∈ zs, 0 ≤ x ∧ x ≤ 255) : ∃ ls : List Nat, ints ls = zs ∧ ls.length = zs.length ∧ ∀ l ∈ ls, l ≤ 255 := by
  refine ⟨zs.map Int.toNat, ?_, by simp, fun l hl => ?_⟩
  · unfold ints
    rw [List.map_map]
    conv => rhs; rw [← List.map_id zs]
    refine List.map_congr_left fun x hx => ?_
    have := h x hx
    show ((x.toNat : Nat) : Int) = x
    omega
  · rw [List.mem_map] at hl
    obtain ⟨x, hx, rfl⟩ := hl
    have := h x hx
    omega
/-- the row of a copy with one mark behind it -/
theorem copy_mark {k : IntKind} {e base n : Nat} {w : World} {v : Value} {xs : List Int} {y : Int} (hl : xs.length = n) (h : w.ownsRow base e 1 v (0 + n + 1) ([] ++ xs.map (Value.int k) ++ [.int k y])) :
    ∃ a c, v = .slice a (n + 1) c ∧ n + 1 ≤ c ∧ OutAt k e w base a c (xs ++ [y]) := by
  have h' : w.ownsRow base e 1 v (n + 1) ((xs ++ [y]).map (Value.int k)) := by
    rw [Nat.zero_add, List.nil_append] at h
    rw [List.map_append]
    exact h
  obtain ⟨a, c, rfl, hO⟩ := OutAt.of h' (by rw [List.length_append, hl]; rfl)
  have := out_cap' hO
  rw [List.length_append, hl] at this
  exact ⟨a, c, rfl, this, hO⟩
set_option maxRecDepth 100000 in
set_option maxHeartbeats 2000000 in
theorem LawVO_any (la oa : Option Addr) (ls : List Nat) (os : List Int) (n m lc oc : Nat) (w : World) (hl : ls.length = n) (hd : Rd .u8 w la (ints ls)) (ho : os.length = m) (hq : Rd .i64 w oa os) (hn : n ≤ 2097152) (hm : m ≤ 2097152) :
    Calls Try.prog 4 #[.slice la n lc, .slice oa m oc] w fun e w' => e = .returned (.bool true) ∧ Below w.heap.size w w' := by
  obtain ⟨i3, hi3, hz3, ha3, hb3⟩ := info_parts (Try.info_int)
  obtain ⟨i5, hi5, hz5, ha5, hb5⟩ := info_parts (Try.info_u8)
  have hil : (ints ls).length = n := by rw [ints_len]; exact hl
  obtain ⟨T, hT⟩ : ∃ T, (turnedI os).getD [] = T := ⟨_, rfl⟩
  obtain ⟨tn, htn⟩ : ∃ tn, T.length = tn := ⟨_, rfl⟩
  have hol : (orderI ls).length = n := by unfold orderI; rw [listOf_len]; exact hl
  have HRO := Lib.hid (fun W h => RefOrder_any la ls n lc W hl h hn)
  have HRT := Lib.hid (fun W h => RefTurned_any oa os m oc W ho h hm)
  have HVO := Lib.hid (fun a c W h => Order_any a ls n c W hl h hn)
  have HVT := Lib.hid (fun a c W h => Turned_any a os m c W ho h hm)
  unfold OrdPost at HVO
  unfold RefListPost at HRO
  have HT := Lib.hid hT
  have HTN := Lib.hid htn
  obtain ⟨O, hO⟩ : ∃ O, orderI ls = O := ⟨_, rfl⟩
  rw [hO] at HVO HRO hol
  have HOL := Lib.hid hol
  have hs1 := ints_one .u8 (ints ls)
  have hs2 := ints_one .i64 os
  have HIL := Lib.hid hil
  have HOS := Lib.hid ho
  have hm1 : ((ints ls).map (Value.int .u8)).length = n * 1 := by rw [List.length_map, hil, Nat.mul_one]
  have hm2 : (os.map (Value.int .i64)).length = m * 1 := by rw [List.length_map, ho, Nat.mul_one]
  have HM1 := Lib.hid hm1
  have HM2 := Lib.hid hm2
  clear hT htn hl hO hol hil ho hm1 hm2
  go_enter Try.func4, Try.ntmps4
  have b0 : Below w.heap.size w (w.alloc (.cells #[] 5)) := (Below.refl _ _).alloc (Nat.le_refl _) _
  have hsrc0 := (rd_src hd b0).imp (fun h => by rwa [HIL.out] at h) id
  go_upto_region 2 with (first
    | (at_builtin; refine wpList_append_src _ rfl (.tmp 19) (.tmp 20) 23 rfl w.heap.size 5 i5 (.int .u8 0) 1 1 Try.underlying23 hi5 hz5 ha5 hb5 rfl (by decide) _ 0 _ rfl (World.ownsRow_made w #[] 0 (Nat.le_refl _) (Nat.zero_le _) (by simp)) la n lc ((ints ls).map (Value.int .u8)) rfl HM1.out hsrc0 hs1 (by unfold maxLen; omega) (by omega) (by simp) ?_; intro v1 w1 hown1 hg1)
    | (at_builtin; refine wpList_append_own _ rfl (.tmp 21) (.tmp 22) 23 rfl w.heap.size 5 i5 (.int .u8 0) 1 1 Try.underlying23 hi5 hz5 ha5 hb5 rfl (by decide) _ _ _ rfl (hown1.alloc _) ⟨w1.heap.size, 0, none⟩ 1 1 [.int .u8 99] rfl rfl (World.news_of_block (cs := #[.int .u8 99]) (t := 5) (fr := (0, 0)) (heap_alloc_new _ _)) (by simp [Value.oneCell']) (by unfold maxLen; omega) (by omega) (by have := hg1.size; simp at this ⊢; omega) ?_; intro v2 w2 hown2 hg2 _))
  obtain ⟨ra, rc, rfl, hrc, hR⟩ := copy_mark HIL.out hown2
  have hbr : Below w.heap.size w w2 := ((b0.grown hg1 (by simp) (fun k hk => by cases hk; exact Nat.le_refl _)).alloc (by have := hg1.size; simp at this ⊢; omega) _).grown hg2 (by have := hg1.size; simp at this ⊢; omega) (fun k hk => (hown1.lt k hk).1)
  clear hown1 hg1 hown2 hg2 hsrc0 b0
  have b1 : Below w2.heap.size w2 (w2.alloc (.cells #[] 3)) := (Below.refl _ _).alloc (Nat.le_refl _) _
  have hsrc1 := (rd_src (hq.below hbr) b1).imp (fun h => by rwa [HOS.out] at h) id
  have gn0 : (n : Int) ≤ (rc : Int) := by omega
  go_upto_region 4 with (first
    | (at_builtin; refine wpList_append_src _ rfl (.tmp 28) (.tmp 29) 32 rfl w2.heap.size 3 i3 (.int .i64 0) 1 8 Try.underlying32 hi3 hz3 ha3 hb3 rfl (by decide) _ 0 _ rfl (World.ownsRow_made w2 #[] 0 (Nat.le_refl _) (Nat.zero_le _) (by simp)) oa m oc (os.map (Value.int .i64)) rfl HM2.out hsrc1 hs2 (by unfold maxLen; omega) (by omega) (by simp) ?_; intro v3 w3 hown3 hg3)
    | (at_builtin; refine wpList_append_own _ rfl (.tmp 30) (.tmp 31) 32 rfl w2.heap.size 3 i3 (.int .i64 0) 1 8 Try.underlying32 hi3 hz3 ha3 hb3 rfl (by decide) _ _ _ rfl (hown3.alloc _) ⟨w3.heap.size, 0, none⟩ 1 1 [.int .i64 (-9)] rfl rfl (World.news_of_block (cs := #[.int .i64 (-9)]) (t := 3) (fr := (0, 0)) (heap_alloc_new _ _)) (by simp [Value.oneCell']) (by unfold maxLen; omega) (by omega) (by have := hg3.size; simp at this ⊢; omega) ?_; intro v4 w4 hown4 hg4 _))
  obtain ⟨pa, pc, rfl, hpc, hP⟩ := copy_mark HOS.out hown4
  have hbp : Below w2.heap.size w2 w4 := ((b1.grown hg3 (by simp) (fun k hk => by cases hk; exact Nat.le_refl _)).alloc (by have := hg3.size; simp at this ⊢; omega) _).grown hg4 (by have := hg3.size; simp at this ⊢; omega) (fun k hk => (hown3.lt k hk).1)
  clear hown3 hg3 hown4 hg4 hsrc1 b1 hs1 hs2 HM1 HM2
  have hbw4 := hbr.trans (hbp.mono hbr.size)
  have hR4 := hR.keep hbp
  have gm0 : (m : Int) ≤ (pc : Int) := by omega
  have hRD : Rd .u8 w4 ra (ints ls) := by have := hR4.rd.head n; rwa [List.take_left' HIL.out] at this
  have hPD : Rd .i64 w4 pa os := by have := hP.rd.head m; rwa [List.take_left' HOS.out] at this
  go_upto_region 6 with (go_at_call 17; refine (HRO.out _ (hd.below hbw4)).mono ?_; rintro e w5 ⟨hb5', wa, wc5, rfl, hW⟩)
  go_upto_region 7 with (go_at_call 18; refine (HRT.out _ (hq.below (hbw4.trans (hb5'.mono hbw4.size)))).mono ?_; intro e w6 h6; obtain ⟨hb6, htm, ta, tc, rfl, hTU⟩ := opt_list h6 T HT.out tn HTN.out)
  have k46 := hb5'.trans (hb6.mono hb5'.size)
  go_upto_region 8 with (go_at_call 19; refine (HVO.out _ _ _ (hRD.below k46)).mono ?_; rintro e w7 ⟨rfl, hA, hb7⟩)
  have k47 := k46.trans (hb7.mono k46.size)
  go_upto_region 9 with (go_at_call 19; refine (HVO.out _ _ _ (hRD.below k47)).mono ?_; rintro e w8 ⟨rfl, hB, hb8⟩)
  have k48 := k47.trans (hb8.mono k47.size)
  go_upto_region 10 with (go_at_call 20; refine (HVT.out _ _ _ (hPD.below k48)).mono ?_; intro e w9 h9; obtain ⟨hb9, _, ca, cc, rfl, hC⟩ := opt_list h9 T HT.out tn HTN.out)
  have k49 := k48.trans (hb9.mono k48.size)
  go_upto_region 11 with (go_at_call 20; refine (HVT.out _ _ _ (hPD.below k49)).mono ?_; intro e wd hd10; obtain ⟨hb10, _, da, dc, rfl, hD⟩ := opt_list hd10 T HT.out tn HTN.out)
  have z02 := hbr.size
  have z24 := hbp.size
  have z45 := hb5'.size
  have z56 := hb6.size
  have z67 := hA.lt.2
  have z78 := hB.lt.2
  have z89 := hb9.size
  have z9d := hb10.size
  have kwd := hbw4.trans ((k49.trans (hb10.mono k49.size)).mono hbw4.size)
  have q2 : ∀ {k : IntKind} {e base cap : Nat} {W : World} {ao : Option Addr} {out : List Int}, OutAt k e W base ao cap out → ∀ g, (Value.slice ao out.length cap).ownBlock = some g → base ≤ g ∧ g < W.heap.size := fun h g hg => World.ownsRow.lt h g hg
  have rR := q2 hR
  have rP := q2 hP
  have rW := q2 hW
  have rT := q2 hTU
  have rC := q2 hC
  have rD := q2 hD
  have k7d := (hb8.trans (hb9.mono hb8.size)).trans (hb10.mono (by omega))
  have k6d := hb7.trans (k7d.mono hb7.size)
  have k5d := hb6.trans (k6d.mono hb6.size)
  have k4d := hb5'.trans (k5d.mono hb5'.size)
  have k8d := hb9.trans (hb10.mono hb9.size)
  have hAd := hA.keep k7d
  have hCd := hC.keep hb10
  obtain ⟨S, hS⟩ : ∃ S : Nat → Prop, S = fun k => k = w6.heap.size ∨ (Value.slice ca T.length cc).ownBlock = some k := ⟨_, rfl⟩
  have hS8 : ∀ g, S g → g = w6.heap.size ∨ (w8.heap.size ≤ g ∧ g < w9.heap.size) := fun g h => by
    rw [hS] at h
    rcases h with h | h
    · exact .inl h
    · exact .inr (rC g h)
  have HSA := Lib.hid (show S w6.heap.size by rw [hS]; exact .inl rfl)
  have HSC := Lib.hid (show ∀ k, (Value.slice ca T.length cc).ownBlock = some k → S k from fun k h => by rw [hS]; exact .inr h)
  have KR := Lib.hid (fun W (h : Only S wd W) => show OutAt .u8 5 W w.heap.size ra rc (ints ls ++ [99]) from h.own (hR4.keep k4d) fun g hg hs => by have h1 := rR g hg; have h2 := hS8 g hs; omega)
  have KP := Lib.hid (fun W (h : Only S wd W) => show OutAt .i64 3 W w2.heap.size pa pc (os ++ [-9]) from h.own (hP.keep k4d) fun g hg hs => by have h1 := rP g hg; have h2 := hS8 g hs; omega)
  have KW := Lib.hid (fun W (h : Only S wd W) => show OutAt .i64 3 W w4.heap.size wa wc5 O from h.own (hW.keep k5d) fun g hg hs => by have h1 := rW g hg; have h2 := hS8 g hs; omega)
  have KT := Lib.hid (fun W (h : Only S wd W) => show OutAt .i64 3 W w5.heap.size ta tc T from h.own (hTU.keep k6d) fun g hg hs => by have h1 := rT g hg; have h2 := hS8 g hs; omega)
  have KB := Lib.hid (fun W (h : Only S wd W) => show OutAt .i64 3 W w7.heap.size (some ⟨w7.heap.size, 0, none⟩) n O from h.own (hB.keep k8d) fun g hg hs => by simp only [Value.ownBlock, Option.some.injEq] at hg; have h2 := hS8 g hs; omega)
  have KD := Lib.hid (fun W (h : Only S wd W) => show OutAt .i64 3 W w9.heap.size da dc T from h.own hD fun g hg hs => by have h1 := rD g hg; have h2 := hS8 g hs; omega)
  have KK := Lib.hid (fun W (h : Only S wd W) => h.below kwd (by omega) (fun k hk => by have h2 := hS8 k hk; omega))
  have HSZ := Lib.hid (fun g (h : (Value.slice ca T.length cc).ownBlock = some g) => show g ≠ w6.heap.size ∧ g < wd.heap.size by have := rC g h; omega)
  have HAD := Lib.hid hAd
  have HCD := Lib.hid (hCd.low (show w6.heap.size ≤ w8.heap.size by omega))
  have hcw : w6.heap.size ≤ wd.heap.size := by omega
  have HSI := Lib.hid (fun (W W' : World) (pa pb : Option Addr) (k ca cb : Nat) (hk : k ≤ 2097152) (h : ∃ xs : List Int, xs.length = k ∧ Rd .i64 W' pa xs ∧ Rd .i64 W' pb xs) (hW : W' = W) => SameInts_any pa pb k ca cb W (by rw [← hW]; exact h) hk)
  obtain ⟨SA, hSA⟩ : ∃ SA, w6.heap.size = SA := ⟨_, rfl⟩
  obtain ⟨SB, hSB⟩ : ∃ SB, w7.heap.size = SB := ⟨_, rfl⟩
  rw [hSA] at HSA HAD HCD HSZ hcw ⊢
  rw [hSB] at KB ⊢
  have KWD := Lib.hid (show Only S wd wd from Only.refl _ _)
  have htn2 : tn ≤ 2097152 := by omega
  clear hR hbr hP hbp hbw4 hR4 hRD hPD hb5' hW hb6 htm hTU h6 k46 hA hb7 k47 hB hb8 k48 hb9 hC h9 k49 hb10 hD hd10 z02 z24 z45 z56 z67 z78 z89 z9d kwd q2 rR rP rW rT rC rD k7d k6d k5d k4d k8d hAd hCd hS hS8 hSA hSB HRO HRT HVO HVT
  go_upto_region 13 with (go_at_call 21; refine (SameInts_any _ _ _ _ _ _ (by first
    | exact ⟨O, HOL.out, HAD.out.rd, (KW.out _ KWD.out).rd⟩
    | exact ⟨O, HOL.out, (KB.out _ KWD.out).rd, (KW.out _ KWD.out).rd⟩
    | exact ⟨T, HTN.out, HCD.out.rd, (KT.out _ KWD.out).rd⟩
    | exact ⟨T, HTN.out, (KD.out _ KWD.out).rd, (KT.out _ KWD.out).rd⟩) (by assumption)).mono ?_; rintro e wx ⟨rfl, mx, rfl⟩)
  go_wp2_with (fail)
  go_loopw [15] (fun u wx => ∃ (i : Nat) (xs : List Int), i ≤ n ∧ u = .int .i64 i ∧ xs.length = n ∧ OutAt .i64 3 wx SA (some ⟨SA, 0, none⟩) n xs ∧ Only (fun k => k = SA) wd wx) (fun u _ => n - (intOf u).toNat)
  case atStart => exact ⟨0, O, by omega, rfl, HOL.out, HAD.out, (Only.refl _ wd).drewN _⟩
  case round =>
    obtain ⟨i, xs, hi, rfl, hxl, hX, hY⟩ := hrel
    have HXL := Lib.hid hxl
    have HY := Lib.hid hY
    by_cases hlt : i < n
    · obtain ⟨G, hG, hG1, hG2, hGc, hGf, _, _⟩ := hX.at i (by rw [hxl]; exact hlt)
      cases hG
      generalize ith xs i = vo at hGc
      have HST := Lib.hid (hX.set i (-5))
      have g0 : (0 : Int) ≤ (i : Int) := by omega
      have g1 : (i : Int) < (n : Int) := by omega
      clear hX hY hxl
      go_wp2_with (fail)
      go_roundw
      case rel => exact ⟨i + 1, xs.set i (-5), by omega, by go_num, by rw [List.length_set]; exact HXL.out, HST.out, HY.out.set rfl _ _⟩
      case measure => simp [intOf]; omega
    · have HX := Lib.hid hX
      have HC1 : Hid (OutAt .i64 3 wr SA ca cc T) := Lib.hid (hY.own HCD.out fun g hg e => (HSZ.out g hg).1 e)
      have HK1 := Lib.hid (hY.weak (T := S) fun k hk => by rw [hk]; exact HSA.out)
      obtain rfl : n = i := by omega
      clear hX hY hxl hlt hi
      go_wp2_with (fail)
      go_loopw [16] (fun u wx => ∃ (i : Nat) (ys : List Int), i ≤ tn ∧ u = .int .i64 i ∧ ys.length = tn ∧ OutAt .i64 3 wx SA ca cc ys ∧ OutAt .i64 3 wx SA (some ⟨SA, 0, none⟩) n xs ∧ Only S wd wx) (fun u _ => tn - (intOf u).toNat)
      case atStart => exact ⟨0, T, by omega, rfl, HTN.out, HC1.out, HX.out, HK1.out⟩
      case round =>
        obtain ⟨j, ys, hj, rfl, hyl, hC, hX, hK⟩ := hrel
        clear HC1 HX HK1
        have HYL := Lib.hid hyl
        by_cases hlt : j < tn
        · obtain ⟨G, rfl, hG1, hG2, hGc, hGf, _, _⟩ := hC.at j (by rw [hyl]; exact hlt)
          generalize ith ys j = vo at hGc
          have HST := Lib.hid (hC.set j (-6))
          have hGS := HSC.out G rfl
          have hGA := (HSZ.out G rfl).1
          have HX2 : Hid (OutAt .i64 3 (wr.setCell ⟨G, j, none⟩ (.int .i64 (-6))) SA (some ⟨SA, 0, none⟩) n xs) := Lib.hid (((Only.refl (fun k => k = G) wr).set rfl j (.int .i64 (-6))).own hX fun g hg e => by
            simp only [Value.ownBlock, Option.some.injEq] at hg
            exact hGA (by rw [← e, hg]))
          have HK2 := Lib.hid (hK.set hGS j (.int .i64 (-6)))
          have g0 : (0 : Int) ≤ (j : Int) := by omega
          have g1 : (j : Int) < (tn : Int) := by omega
          clear hC hX hK hyl hGS hGA
          go_wp2_with (fail)
          go_roundw
          case rel => exact ⟨j + 1, ys.set j (-6), by omega, by go_num, by rw [List.length_set]; exact HYL.out, HST.out, HX2.out, HK2.out⟩
          case measure => simp [intOf]; omega
        · have hXo : wr.ownsRow SA 3 1 (.slice (some ⟨SA, 0, none⟩) n n) n (xs.map (Value.int .i64)) := by
            have h := hX
            unfold OutAt at h
            rw [HXL.out] at h
            exact h
          have hCo : wr.ownsRow SA 3 1 (.slice ca tn cc) tn (ys.map (Value.int .i64)) := by
            have h := hC
            unfold OutAt at h
            rw [hyl] at h
            exact h
          have hdis : ∀ g, (Value.slice (some ⟨SA, 0, none⟩) n n).ownBlock = some g → (Value.slice ca tn cc).ownBlock ≠ some g := fun g h1 h2 => by
            simp only [Value.ownBlock, Option.some.injEq] at h1
            have := HSZ.out g (by rw [← h2]; cases ca <;> rfl)
            omega
          have hsa : ∀ g, (Value.slice (some ⟨SA, 0, none⟩) n n).ownBlock = some g → S g ∨ wd.heap.size ≤ g := fun g h1 => by
            simp only [Value.ownBlock, Option.some.injEq] at h1
            rw [← h1]
            exact .inl HSA.out
          have hsc : ∀ g, (Value.slice ca tn cc).ownBlock = some g → S g ∨ wd.heap.size ≤ g := fun g h1 => .inl (HSC.out g (by rw [← h1]; cases ca <;> rfl))
          have HXO := Lib.hid hXo
          have HCO := Lib.hid hCo
          have HDI := Lib.hid hdis
          have HS1 := Lib.hid hsa
          have HS2 := Lib.hid hsc
          have HKK := Lib.hid hK
          obtain rfl : tn = j := by omega
          clear hXo hCo hdis hsa hsc hK hX hC hyl hlt hj HYL HXL
          go_wp2_with (fail)
          go_loopw [11, 13, 17] (fun u11 u13 u wx => ∃ (i : Nat) (xs ys : List Value), i ≤ 30 ∧ u = .int .i64 i ∧ wx.ownsRow SA 3 1 u11 (n + i) xs ∧ wx.ownsRow SA 3 1 u13 (tn + i) ys ∧ (∀ g, u11.ownBlock = some g → u13.ownBlock ≠ some g) ∧ (∀ g, u11.ownBlock = some g → S g ∨ wd.heap.size ≤ g) ∧ (∀ g, u13.ownBlock = some g → S g ∨ wd.heap.size ≤ g) ∧ Only S wd wx) (fun _ _ u _ => 30 - (intOf u).toNat)
          case atStart => exact ⟨0, _, _, by omega, rfl, HXO.out, HCO.out, HDI.out, HS1.out, HS2.out, HKK.out⟩
          case round =>
            obtain ⟨i, xs, ys, hi, rfl, hX, hC, hdis, hsa, hsc, hK⟩ := hrel
            clear HXO HCO HDI HS1 HS2 HKK
            by_cases hlt : i < 30
            · have hks := hK.size
              have hlit := (Only.refl S wr).alloc (.cells #[.int .i64 (-7)] 3)
              go_wp2_with (first
                | (at_builtin; refine wpList_append_own_at _ rfl (.tmp 93) (.tmp 94) 32 rfl SA 3 i3 (.int .i64 0) 1 8 Try.underlying32 hi3 hz3 ha3 hb3 rfl (by decide) _ (n + i) _ rfl (hX.alloc _) ⟨wr.heap.size, 0, none⟩ 1 1 [.int .i64 (-7)] rfl rfl (World.news_of_block (cs := #[.int .i64 (-7)]) (t := 3) (fr := (0, 0)) (heap_alloc_new _ _)) (by simp [Value.oneCell']) (by unfold maxLen; omega) (by omega) (by simp; omega) ?_; intro v1 w1 hX1 hg1 _ hloc1)
                | (at_builtin; refine wpList_append_own_at _ rfl (.tmp 96) (.tmp 97) 32 rfl SA 3 i3 (.int .i64 0) 1 8 Try.underlying32 hi3 hz3 ha3 hb3 rfl (by decide) _ (tn + i) _ rfl ((ownsRow_ne (hC.alloc _) hg1 fun g hg e => hdis g e hg).alloc _) ⟨w1.heap.size, 0, none⟩ 1 1 [.int .i64 (-8)] rfl rfl (World.news_of_block (cs := #[.int .i64 (-8)]) (t := 3) (fr := (0, 0)) (heap_alloc_new _ _)) (by simp [Value.oneCell']) (by unfold maxLen; omega) (by omega) (by have := hg1.size; simp at this ⊢; omega) ?_; intro v2 w2 hC2 hg2 _ hloc2))
              replace hg1 : (wr.alloc (.cells #[.int .i64 (-7)] 3)).grownBy w1 u11.ownBlock := hg1
              replace hg2 : (w1.alloc (.cells #[.int .i64 (-8)] 3)).grownBy w2 u13.ownBlock := hg2
              replace hloc1 : v1.ownBlock = u11.ownBlock ∨ v1.ownBlock = some (wr.alloc (.cells #[.int .i64 (-7)] 3)).heap.size := hloc1
              replace hloc2 : v2.ownBlock = u13.ownBlock ∨ v2.ownBlock = some (w1.alloc (.cells #[.int .i64 (-8)] 3)).heap.size := hloc2
              have hC1 := ownsRow_ne (hC.alloc (.cells #[.int .i64 (-7)] 3)) hg1 fun g hg e => hdis g e hg
              have hs1 : wr.heap.size + 1 ≤ w1.heap.size := by have := hg1.size; simpa using this
              have hsC := fun g h => (hC.lt g h).2
              have d1 : ∀ g, v1.ownBlock = some g → u13.ownBlock ≠ some g := fun g h e => by
                rcases hloc1 with q | q
                · exact hdis g (by rw [← q, h]) e
                · rw [h, World.size_alloc] at q
                  simp only [Option.some.injEq] at q
                  have := hsC g e
                  omega
              have s1 : ∀ g, v1.ownBlock = some g → S g ∨ wd.heap.size ≤ g := fun g h => by
                rcases hloc1 with q | q
                · exact hsa g (by rw [← q, h])
                · rw [h, World.size_alloc] at q
                  simp only [Option.some.injEq] at q
                  omega
              have hsX1 := fun g h => (hX1.lt g h).2
              have d2 : ∀ g, v1.ownBlock = some g → v2.ownBlock ≠ some g := fun g h e => by
                rcases hloc2 with q | q
                · exact d1 g h (by rw [← q, e])
                · rw [e, World.size_alloc] at q
                  simp only [Option.some.injEq] at q
                  have := hsX1 g h
                  omega
              have s2 : ∀ g, v2.ownBlock = some g → S g ∨ wd.heap.size ≤ g := fun g h => by
                rcases hloc2 with q | q
                · exact hsc g (by rw [← q, h])
                · rw [h, World.size_alloc] at q
                  simp only [Option.some.injEq] at q
                  omega
              have hX2 := ownsRow_ne (hX1.alloc (.cells #[.int .i64 (-8)] 3)) hg2 fun g hg e => d1 g hg e
              have hK1 := (hK.alloc (.cells #[.int .i64 (-7)] 3)).grown hg1 hsa
              have hK2 := (hK1.alloc (.cells #[.int .i64 (-8)] 3)).grown hg2 hsc
              have HR := Lib.hid (And.intro hX2 (And.intro hC2 (And.intro d2 (And.intro s1 (And.intro s2 hK2)))))
              clear hX hC hdis hsa hsc hK hg1 hg2 hloc1 hloc2 hC1 d1 s1 d2 s2 hX2 hK1 hK2 hX1 hC2 hsC hsX1
              go_roundw
              case rel => exact ⟨i + 1, _, _, by omega, by go_num, HR.out.1, HR.out.2.1, HR.out.2.2.1, HR.out.2.2.2.1, HR.out.2.2.2.2.1, HR.out.2.2.2.2.2⟩
              case measure => simp [intOf]; omega
            · obtain rfl : 30 = i := by omega
              obtain ⟨aA, cA, rfl, _, _⟩ := own_slice hX
              obtain ⟨aC, cC, rfl, _, _⟩ := own_slice hC
              have RB := Lib.hid (KB.out wr hK).rd
              have RW := Lib.hid (KW.out wr hK).rd
              have RD := Lib.hid (KD.out wr hK).rd
              have RT := Lib.hid (KT.out wr hK).rd
              have RP : Hid (Rd .i64 wr pa os) := Lib.hid (by have := (KP.out wr hK).rd.head m; rwa [List.take_left' HOS.out] at this)
              have RR : Hid (Rd .u8 wr ra (ints ls)) := Lib.hid (by have := (KR.out wr hK).rd.head n; rwa [List.take_left' HIL.out] at this)
              have RO := Lib.hid (hq.below (KK.out wr hK))
              have RL := Lib.hid (hd.below (KK.out wr hK))
              have HKK := Lib.hid (KK.out wr hK)
              obtain ⟨Gp, hGp, _, _, hcp, _⟩ := (KP.out wr hK).at m (by rw [List.length_append, HOS.out]; exact Nat.lt_succ_self _)
              obtain ⟨Gr, hGr, _, _, hcr, _⟩ := (KR.out wr hK).at n (by rw [List.length_append, HIL.out]; exact Nat.lt_succ_self _)
              rw [show ith (os ++ [-9]) m = -9 from by unfold ith; rw [List.getD_eq_getElem?_getD, List.getElem?_append_right (by rw [HOS.out]; exact Nat.le_refl _), HOS.out, Nat.sub_self]; rfl] at hcp
              rw [show ith (ints ls ++ [99]) n = 99 from by unfold ith; rw [List.getD_eq_getElem?_getD, List.getElem?_append_right (by rw [HIL.out]; exact Nat.le_refl _), HIL.out, Nat.sub_self]; rfl] at hcr
              subst hGp hGr
              clear hX hC hdis hsa hsc hK
              go_wp2_with (first
                | (go_at_call 21; refine (SameInts_any _ _ _ _ _ _ (by first
                    | exact ⟨O, HOL.out, RB.out, RW.out⟩
                    | exact ⟨T, HTN.out, RD.out, RT.out⟩
                    | exact ⟨os, HOS.out, RP.out, RO.out⟩) (by assumption)).mono ?_; rintro e wx ⟨rfl, mx, rfl⟩)
                | (go_at_call 14; refine (SameLevels_any _ _ _ _ _ _ (by exact ⟨ints ls, HIL.out, RR.out, RL.out⟩)).mono ?_; rintro e wx ⟨rfl, hwx⟩; subst hwx)
                | (go_at_call 16; refine (wakes_any _).mono ?_; rintro e wz ⟨rfl, hbz⟩))
              go_ret
              exact ⟨rfl, (bl_drewN HKK.out _).trans (hbz.mono HKK.out.size)⟩
end Go.Proofs.Ytbhhebheclfdlaa
