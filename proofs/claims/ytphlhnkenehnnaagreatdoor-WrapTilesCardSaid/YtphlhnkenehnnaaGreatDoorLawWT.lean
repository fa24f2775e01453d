/- The law WrapTiles of layer 14: at any line, width and look it answers true, and nothing that was there changes. -/
import Derived.Test.YtphlhnkenehnnaaGreatDoorWorks
import Derived.Test.YtphlhnkenehnnaaGreatDoorMayB
namespace Go.Proofs.YtphlhnkenehnnaaGreatDoor
set_option linter.unusedVariables false
set_option linter.unusedSimpArgs false
open Go.RowKit Go.Proofs Go.Shelf Go.Maps
attribute [local go_sem] Oper.semAt_some

theorem Marks.look {W : World} {M cnt : Nat} {p : Nat → Prop} (h : Marks W M cnt p) (j : Nat) (hj : p j) (hz : j ≤ 4194304) :
    (Instr.lookup 41 (.map (some M)) (.int .i64 j) false).run Tryz.prog W = .ok (.int .i64 1) W := by
  obtain ⟨D, h1, h2⟩ := h.one
  obtain ⟨c, hr, hat, _⟩ := h1.lookup_int key_law Tryz.underlying41 Tryz.underlying3 (zero_int _) (keyOf_int_mk Tryz.underlying3 (WalkArith.wf_i64 (show -9223372036854775808 ≤ (j : Int) ∧ (j : Int) ≤ 9223372036854775807 by omega)))
  have e := hat.symm.trans (h2 j hj)
  have e2 := DataW.lit.inj e
  have : c = 1 := (Lit.int.inj e2).2
  rw [hr, this]
theorem ext_leT (s : ByteArray) (a b : Nat) : (s.extract a b).size ≤ s.size := by simp [ByteArray.size_extract]; omega
theorem sum_wT (a b e : Nat) (h : a + b = e) (h2 : e ≤ 65536) : wrap64 ((a : Int) + (b : Int)) = (e : Int) := by unfold wrap64; omega
theorem cCount_any (s : ByteArray) (w : World) (hT : T8 w) (hs : s.size ≤ 2097152) :
    Calls Tryz.prog 20 #[.string s] w fun e w' => e = .returned (.int .i64 (piecesI s).length) ∧ Below w.heap.size w w' := by
  have HE := Lib.hid (ends_any s w hT hs)
  clear hT
  go_enter Tryz.func20, Tryz.ntmps20
  go_wp2_with (go_at_call 34; refine HE.out.mono ?_; rintro e w1 ⟨a, c, rfl, hO, hb⟩)
  go_ret
  exact ⟨rfl, hb⟩
set_option maxRecDepth 100000 in
set_option maxHeartbeats 2000000 in
theorem LawWT_any (line : ByteArray) (wd tab want : Int) (wideA join raw : Bool) (w : World) (hT : T8 w) (hD : DB w) :
    Calls Tryz.prog 7 #[.string line, .int .i64 wd, lookV tab want wideA join raw] w fun e w' => e = .returned (.bool true) ∧ Below w.heap.size w w' := by
  obtain ⟨X, hX⟩ : ∃ X, rowsI line wd tab want wideA raw = X := ⟨_, rfl⟩
  obtain ⟨hnil, hne, hlen, htile⟩ := tiles_rows line wd tab want wideA raw X hX
  have HNIL := Lib.hid hnil
  have HNE := Lib.hid hne
  have HTILE := Lib.hid htile
  have HR : Hid (∀ W, T8 W → DB W → Calls Tryz.prog 10 #[.string line, .int .i64 wd, lookV tab want wideA join raw] W fun e w' => ∃ pa cap, e = .returned (.slice pa X.length cap) ∧ RdR w' pa X ∧ Below W.heap.size W w') :=
    Lib.hid fun W h1 h2 => (Rows_any line wd tab want wideA join raw W h1 h2).mono fun e w' ⟨pa, cap, h3, h4, h5⟩ => by
      rw [hX] at h3 h4
      exact ⟨pa, cap, h3, h4.rd, h5⟩
  clear hX hnil hne htile
  have HT : Hid (∀ W, Below w.heap.size w W → T8 W) := Lib.hid fun W hb => hT.below rfl hb
  have HD : Hid (∀ W, Below w.heap.size w W → DB W) := Lib.hid fun W hb => hD.below hb
  clear hT hD
  go_enter Tryz.func7, Tryz.ntmps7
  go_upto_region 1 with (fail)
  have hb0 : Below w.heap.size w (w.alloc (.cells #[.int .i64 tab, .bool wideA, .int .i8 want, .bool join, .bool raw] 24)) := (Below.refl _ _).alloc (Nat.le_refl _) _
  have hx0 := World.alloc_heap_new w (.cells #[.int .i64 tab, .bool wideA, .int .i8 want, .bool join, .bool raw] 24)
  generalize w.alloc (.cells #[.int .i64 tab, .bool wideA, .int .i8 want, .bool join, .bool raw] 24) = W0 at hb0 hx0 ⊢
  have hs0 : w.heap.size < W0.heap.size := (Array.getElem?_eq_some_iff.1 hx0).1
  have l0_0 : W0.cell? ⟨w.heap.size, 0, none⟩ = some (.int .i64 tab) := by simp [World.cell?, hx0]
  have l0_1 : W0.cell? ⟨w.heap.size, 1, none⟩ = some (.bool wideA) := by simp [World.cell?, hx0]
  have l0_2 : W0.cell? ⟨w.heap.size, 2, none⟩ = some (.int .i8 want) := by simp [World.cell?, hx0]
  have l0_3 : W0.cell? ⟨w.heap.size, 3, none⟩ = some (.bool join) := by simp [World.cell?, hx0]
  have l0_4 : W0.cell? ⟨w.heap.size, 4, none⟩ = some (.bool raw) := by simp [World.cell?, hx0]
  have HL : Hid (∀ W, Below W0.heap.size W0 W → W.cell? ⟨w.heap.size, 0, none⟩ = some (.int .i64 tab) ∧ W.cell? ⟨w.heap.size, 1, none⟩ = some (.bool wideA) ∧ W.cell? ⟨w.heap.size, 2, none⟩ = some (.int .i8 want) ∧ W.cell? ⟨w.heap.size, 3, none⟩ = some (.bool join) ∧ W.cell? ⟨w.heap.size, 4, none⟩ = some (.bool raw)) :=
    Lib.hid fun W hb => ⟨cell_bl hb hs0 l0_0, cell_bl hb hs0 l0_1, cell_bl hb hs0 l0_2, cell_bl hb hs0 l0_3, cell_bl hb hs0 l0_4⟩
  have HW : Hid (∀ W, Below W0.heap.size W0 W → Below w.heap.size w W) := Lib.hid fun W hb => hb0.trans (hb.mono (by omega))
  have HWK := Lib.hid (works_any W0 (HT.out W0 hb0) (HD.out W0 hb0))
  clear hb0 hx0 l0_0 l0_1 l0_2 l0_3 l0_4
  go_upto_region 3 with (go_at_call 13; refine HWK.out.mono ?_; rintro e w1 ⟨rfl, hb1⟩)
  obtain ⟨l1_0, l1_1, l1_2, l1_3, l1_4⟩ := HL.out _ hb1
  have HR1 := Lib.hid (HR.out w1 (HT.out w1 (HW.out _ hb1)) (HD.out w1 (HW.out _ hb1)))
  have HB1 := Lib.hid hb1
  clear hb1 HR HWK
  go_upto_region 4 with (go_at_call 10; refine HR1.out.mono ?_; rintro e w2 ⟨pa, cap, rfl, hrd, hb2⟩)
  have hb2' := HB1.out.trans (hb2.mono HB1.out.size)
  have HB2 := Lib.hid hb2'
  have HRD := Lib.hid hrd
  clear l1_0 l1_1 l1_2 l1_3 l1_4 hb2 hb2' hrd HR1 HB1
  by_cases h0 : wd < 1 ∨ 1024 < wd ∨ 65536 < line.size
  · obtain rfl := HNIL.out h0
    by_cases g1 : wd < 1
    · go_wp2_with (fail)
      go_ret
      exact ⟨rfl, HW.out _ HB2.out⟩
    by_cases g2 : wd > 1024
    · go_wp2_with (fail)
      go_ret
      exact ⟨rfl, HW.out _ HB2.out⟩
    have g3 : (line.size : Int) > 65536 := by omega
    go_wp2_with (fail)
    go_ret
    exact ⟨rfl, HW.out _ HB2.out⟩
  have g1 : ¬ (wd < 1) := by omega
  have g2 : ¬ (wd > 1024) := by omega
  have g3 : ¬ ((line.size : Int) > 65536) := by omega
  have hls : line.size ≤ 65536 := by omega
  have hpos : 0 < X.length := List.length_pos_iff.2 (HNE.out h0)
  obtain ⟨T, hTT⟩ : ∃ T, textOf line = T := ⟨_, rfl⟩
  have hTz : T.size ≤ 65536 := by have := (textOf_pieces line).1; rw [hTT] at this; omega
  have hC := countedL_any line (by omega) w2 (HT.out _ (HW.out _ HB2.out))
  rw [hTT] at HTILE hC
  have HC := Lib.hid hC
  obtain ⟨ee, hee⟩ : ∃ ee, (countI line).isSome = ee := ⟨_, rfl⟩
  rw [hee] at HTILE HC
  obtain ⟨n, hn⟩ : ∃ n, X.length = n := ⟨_, rfl⟩
  rw [hn] at hlen hpos ⊢
  have HN := Lib.hid hn
  clear hC hTT hee HNIL HNE h0 hn
  go_upto_region 7 with (go_at_call 17; refine HC.out.mono ?_; rintro e w3 ⟨rfl, hb3⟩)
  have hb3' := HB2.out.trans (hb3.mono HB2.out.size)
  have HB3 := Lib.hid hb3'
  have HRD3 := Lib.hid (HRD.out.below hb3)
  have HMY := Lib.hid (may_any line (by omega) w3 (HT.out _ (HW.out _ hb3')))
  have HBO : Hid (∀ W, Below W0.heap.size W0 W → Calls Tryz.prog 19 #[.string T] W fun e w' => ∃ M cnt, e = .returned (.map (some M)) ∧ W.heap.size ≤ M ∧ Marks w' M cnt (fun j => j = 0 ∨ Ended (piecesI T) j) ∧ Below W.heap.size W w') :=
    Lib.hid fun W hb => borders_any T (by omega) W (HT.out _ (HW.out _ hb))
  clear hb3 hb3' HRD HB2 HC
  go_upto_region 8 with (first | (go_at_call 18; refine HMY.out.mono ?_; rintro e w4 ⟨M1, c1, rfl, hM1, hm1, hb4⟩; have HB4 := Lib.hid (HB3.out.trans (hb4.mono HB3.out.size)); have HRD4 := Lib.hid (HRD3.out.below hb4); have HM1 := Lib.hid hm1; have HBO4 := Lib.hid (HBO.out w4 HB4.out); clear hm1 hb4 hM1) | (go_at_call 19; refine HBO4.out.mono ?_; rintro e w5 ⟨M2, c2, rfl, hM2, hm2, hb5⟩; have HB5 := Lib.hid (HB4.out.trans (hb5.mono HB4.out.size)); have HRD5 := Lib.hid (HRD4.out.below hb5); have HM12 := Lib.hid (HM1.out.below hb5 HM1.out.lt); have HM2 := Lib.hid hm2; clear hm2 hb5 hM2))
  clear HB3 HRD3 HMY HBO HB4 HRD4 HM1 HBO4
  go_upto_block 0 with (fail)
  go_wp2_with (fail)
  go_loopw [12, 47] (fun u12 u47 wx => ∃ i at' : Nat, i ≤ n ∧ u47 = .int .i64 i ∧ u12 = .int .i64 at' ∧ Below W0.heap.size W0 wx ∧ RdR wx pa X ∧ Marks wx M1 c1 (EndedMay (piecesI line) (whereI line)) ∧ Marks wx M2 c2 (fun j => j = 0 ∨ Ended (piecesI T) j) ∧ (∀ v, X[i]? = some v → v.a = (at' : Int)) ∧ (i = n → at' = T.size)) (fun _ u47 _ => n - (intOf u47).toNat)
  case atStart =>
    refine ⟨0, 0, by omega, rfl, rfl, HB5.out, HRD5.out, HM12.out, HM2.out, fun v hv => ?_, fun h => by omega⟩
    obtain ⟨a, len, ea, _, _, _, _, _, h0, _⟩ := HTILE.out 0 v hv
    rw [ea, h0 rfl]
  case round =>
    obtain ⟨i, at', hi, rfl, rfl, hbr, hrd, hm1, hm2, hat, hend⟩ := hrel
    have HBR := Lib.hid hbr
    have HRDr := Lib.hid hrd
    have HM1r := Lib.hid hm1
    have HM2r := Lib.hid hm2
    have HEND := Lib.hid hend
    clear hbr hrd hm1 hm2 hend HB5 HRD5 HM12 HM2
    by_cases hlt : i < n
    · obtain ⟨v, hv⟩ : ∃ v, X[i]? = some v := ⟨_, List.getElem?_eq_getElem (by rw [HN.out]; exact hlt)⟩
      obtain ⟨a, len, ea, el, hal, hbo, hw0, hcnt, _, hnx⟩ := HTILE.out i v hv
      obtain rfl : at' = a := by have := hat v hv; omega
      obtain ⟨b, off, hpa, hblt, x0, x1, x2, x3, x4⟩ := HRDr.out.at i v hv
      subst hpa
      rw [HN.out] at hnx
      have HV := Lib.hid hv
      have HEA := Lib.hid ea
      have HEL := Lib.hid el
      have HNX := Lib.hid hnx
      have HCNT := Lib.hid hcnt
      clear hv ea el hnx hcnt hat HEND
      go_upto_region 13 with (fail)
      have hb5 : Below wr.heap.size wr (wr.alloc (.cells #[.int .i64 v.a, .int .i64 v.len, .int .u8 v.level, .int .i64 v.wide, .int .i8 v.fin] 30)) := (Below.refl _ _).alloc (Nat.le_refl _) _
      have hy := World.alloc_heap_new wr (.cells #[.int .i64 v.a, .int .i64 v.len, .int .u8 v.level, .int .i64 v.wide, .int .i8 v.fin] 30)
      generalize wr.alloc (.cells #[.int .i64 v.a, .int .i64 v.len, .int .u8 v.level, .int .i64 v.wide, .int .i8 v.fin] 30) = W5 at hb5 hy ⊢
      obtain ⟨R, hR⟩ : ∃ R, wr.heap.size = R := ⟨_, rfl⟩
      rw [hR] at hy ⊢
      have hRlt : R < W5.heap.size := (Array.getElem?_eq_some_iff.1 hy).1
      have y0 : W5.cell? ⟨R, 0, none⟩ = some (.int .i64 at') := by simp [World.cell?, hy, HEA.out]
      have y1 : W5.cell? ⟨R, 1, none⟩ = some (.int .i64 len) := by simp [World.cell?, hy, HEL.out]
      have y3 : W5.cell? ⟨R, 3, none⟩ = some (.int .i64 v.wide) := by simp [World.cell?, hy]
      have y4 : W5.cell? ⟨R, 4, none⟩ = some (.int .i8 v.fin) := by simp [World.cell?, hy]
      have hbw5 : Below W0.heap.size W0 W5 := HBR.out.trans (hb5.mono HBR.out.size)
      have HRD5 := Lib.hid (HRDr.out.below hb5)
      have HB5 := Lib.hid hbw5
      have hm1 := HM1r.out.below hb5 HM1r.out.lt
      have hm2 := HM2r.out.below hb5 HM2r.out.lt
      obtain ⟨e, he⟩ : ∃ e, at' + len = e := ⟨_, rfl⟩
      rw [he] at hal hbo
      have hez : e ≤ 65536 := Nat.le_trans hal hTz
      have hl2 := hm2.look e hbo (by omega)
      have HM1 := Lib.hid hm1
      have HM2 := Lib.hid hm2
      have k1 : ¬ ((len : Int) < 0) := by omega
      have k3 : ¬ ((e : Int) > (T.size : Int)) := by omega
      have k4 : ¬ (v.wide < 0) := by omega
      have k5 : (0 : Int) ≤ (e : Int) := Int.natCast_nonneg e
      have k6 : (at' : Int) ≤ (e : Int) := by omega
      have k7 : (e : Int) ≤ (T.size : Int) := by omega
      have HE := Lib.hid he
      have HTZ := Lib.hid hTz
      have HLT := Lib.hid hlt
      have HLEN := Lib.hid hlen
      have HEZ := Lib.hid hez
      have Y0 := Lib.hid y0
      have ew := sum_wT at' len e he hez
      clear x0 x1 x2 x3 x4 hy hb5 hbw5 HRDr HBR hR hblt hm1 hm2 HM1r HM2r he hez hTz hlt hlen hal hbo hw0 hs0 hpos hls g1 g2 g3 hi
      go_upto_region 16 with (fail)
      rw [ew]
      clear ew hl2 y0
      have HB5' := Lib.hid HB5.out.size
      have hmid : v.wide > wd ∧ (piecesI (T.extract at' e)).length = 1 ∨ ¬ (v.wide > wd) := by
        by_cases hh : v.wide > wd
        · left; refine ⟨hh, ?_⟩
          have := HCNT.out (by omega)
          rw [HE.out] at this
          exact this
        · exact .inr hh
      have y0 : W5.cell? ⟨R, 0, none⟩ = some (.int .i64 at') := Y0.out
      rcases hmid with ⟨hh, hcn⟩ | hh
      · have hCN := cCount_any (T.extract at' e) W5 (HT.out _ (HW.out _ HB5.out)) (Nat.le_trans (ext_leT T at' e) (Nat.le_trans HTZ.out (by decide)))
        rw [hcn] at hCN
        have HCN := Lib.hid hCN
        obtain ⟨U, hU⟩ : ∃ U, T.extract at' e = U := ⟨_, rfl⟩
        rw [hU] at HCN
        clear hCN hcn
        go_upto_region 18 with (go_at_call 20; refine HCN.out.mono ?_; rintro e' w6 ⟨rfl, hb6⟩)
        have HB6 := Lib.hid (HB5.out.trans (hb6.mono HB5.out.size))
        have HRD6 := Lib.hid (HRD5.out.below hb6)
        have HM16 := Lib.hid (HM1.out.below hb6 HM1.out.lt)
        have HM26 := Lib.hid (HM2.out.below hb6 HM2.out.lt)
        have z1 : w6.cell? ⟨R, 1, none⟩ = some (.int .i64 len) := cell_bl hb6 hRlt y1
        have z4 : w6.cell? ⟨R, 4, none⟩ = some (.int .i8 v.fin) := cell_bl hb6 hRlt y4
        clear HB5 HB5' HRD5 HM1 HM2 y0 y1 y3 y4 hb6 HCN hU
        have hlen := HLEN.out
        rcases HNX.out with ⟨hk, ⟨y, hy, hya⟩, hl0, hf⟩ | ⟨hk, hT, hf⟩
        · have b1 : ((i : Int) == (n : Int) - 1) = false := by rw [beq_eq_false_iff_ne]; omega
          have b2 : ((len : Int) == 0) = false := by rw [beq_eq_false_iff_ne]; omega
          have hrel : ∀ v, X[i + 1]? = some v → v.a = (e : Int) := fun v hv => by
            rw [hy] at hv
            cases hv
            rw [hya, HE.out]
          have hrel2 : i + 1 = n → e = T.size := fun h => by omega
          have HREL := Lib.hid hrel
          have HREL2 := Lib.hid hrel2
          have hik : i + 1 ≤ n := by omega
          clear hrel hrel2 hy hya hk hl0
          rcases hf with h3 | ⟨h2, hmay⟩
          · rw [h3] at z4
            clear h3
            go_wp2_with (fail)
            go_roundw
            case rel => exact ⟨i + 1, e, hik, by go_num, rfl, HB6.out, HRD6.out, HM16.out, HM26.out, HREL.out, HREL2.out⟩
            case measure => have := HLT.out; simp [intOf]; omega
          · have hl1 := HM16.out.look e (HE.out ▸ hmay) (Nat.le_trans HEZ.out (by decide))
            rw [h2] at z4
            clear h2 hmay
            go_wp2_with (fail)
            go_roundw
            case rel => exact ⟨i + 1, e, hik, by go_num, rfl, HB6.out, HRD6.out, HM16.out, HM26.out, HREL.out, HREL2.out⟩
            case measure => have := HLT.out; simp [intOf]; omega
        · have b1 : ((i : Int) == (n : Int) - 1) = true := by rw [beq_iff_eq]; omega
          have hrel : ∀ v, X[i + 1]? = some v → v.a = (e : Int) := fun v hv => by
            have := (List.getElem?_eq_some_iff.1 hv).1
            rw [HN.out] at this
            omega
          have hrel2 : i + 1 = n → e = T.size := fun h => by rw [← hT, HE.out]
          have HREL := Lib.hid hrel
          have HREL2 := Lib.hid hrel2
          have hik : i + 1 ≤ n := by omega
          rw [hf] at z4
          clear hrel hrel2 hk hT hf
          cases ee with
          | true =>
            have z5 : lastEnd true = 1 := rfl
            rw [z5] at z4
            clear z5
            go_wp2_with (fail)
            go_roundw
            case rel => exact ⟨i + 1, e, hik, by go_num, rfl, HB6.out, HRD6.out, HM16.out, HM26.out, HREL.out, HREL2.out⟩
            case measure => have := HLT.out; simp [intOf]; omega
          | false =>
            have z5 : lastEnd false = 0 := rfl
            rw [z5] at z4
            clear z5
            go_wp2_with (fail)
            go_roundw
            case rel => exact ⟨i + 1, e, hik, by go_num, rfl, HB6.out, HRD6.out, HM16.out, HM26.out, HREL.out, HREL2.out⟩
            case measure => have := HLT.out; simp [intOf]; omega
      · go_upto_region 18 with (fail)
        have HB6 := HB5
        have HRD6 := HRD5
        have HM16 := HM1
        have HM26 := HM2
        have z1 := y1
        have z4 := y4
        clear HB5 HB5' HRD5 HM1 HM2 y0 y1 y3 y4
        have hlen := HLEN.out
        rcases HNX.out with ⟨hk, ⟨y, hy, hya⟩, hl0, hf⟩ | ⟨hk, hT, hf⟩
        · have b1 : ((i : Int) == (n : Int) - 1) = false := by rw [beq_eq_false_iff_ne]; omega
          have b2 : ((len : Int) == 0) = false := by rw [beq_eq_false_iff_ne]; omega
          have hrel : ∀ v, X[i + 1]? = some v → v.a = (e : Int) := fun v hv => by
            rw [hy] at hv
            cases hv
            rw [hya, HE.out]
          have hrel2 : i + 1 = n → e = T.size := fun h => by omega
          have HREL := Lib.hid hrel
          have HREL2 := Lib.hid hrel2
          have hik : i + 1 ≤ n := by omega
          clear hrel hrel2 hy hya hk hl0
          rcases hf with h3 | ⟨h2, hmay⟩
          · rw [h3] at z4
            clear h3
            go_wp2_with (fail)
            go_roundw
            case rel => exact ⟨i + 1, e, hik, by go_num, rfl, HB6.out, HRD6.out, HM16.out, HM26.out, HREL.out, HREL2.out⟩
            case measure => have := HLT.out; simp [intOf]; omega
          · have hl1 := HM16.out.look e (HE.out ▸ hmay) (Nat.le_trans HEZ.out (by decide))
            rw [h2] at z4
            clear h2 hmay
            go_wp2_with (fail)
            go_roundw
            case rel => exact ⟨i + 1, e, hik, by go_num, rfl, HB6.out, HRD6.out, HM16.out, HM26.out, HREL.out, HREL2.out⟩
            case measure => have := HLT.out; simp [intOf]; omega
        · have b1 : ((i : Int) == (n : Int) - 1) = true := by rw [beq_iff_eq]; omega
          have hrel : ∀ v, X[i + 1]? = some v → v.a = (e : Int) := fun v hv => by
            have := (List.getElem?_eq_some_iff.1 hv).1
            rw [HN.out] at this
            omega
          have hrel2 : i + 1 = n → e = T.size := fun h => by rw [← hT, HE.out]
          have HREL := Lib.hid hrel
          have HREL2 := Lib.hid hrel2
          have hik : i + 1 ≤ n := by omega
          rw [hf] at z4
          clear hrel hrel2 hk hT hf
          cases ee with
          | true =>
            have z5 : lastEnd true = 1 := rfl
            rw [z5] at z4
            clear z5
            go_wp2_with (fail)
            go_roundw
            case rel => exact ⟨i + 1, e, hik, by go_num, rfl, HB6.out, HRD6.out, HM16.out, HM26.out, HREL.out, HREL2.out⟩
            case measure => have := HLT.out; simp [intOf]; omega
          | false =>
            have z5 : lastEnd false = 0 := rfl
            rw [z5] at z4
            clear z5
            go_wp2_with (fail)
            go_roundw
            case rel => exact ⟨i + 1, e, hik, by go_num, rfl, HB6.out, HRD6.out, HM16.out, HM26.out, HREL.out, HREL2.out⟩
            case measure => have := HLT.out; simp [intOf]; omega
    · obtain rfl : i = n := by omega
      have hE := HEND.out rfl
      subst hE
      go_wp2_with (fail)
      go_ret
      exact ⟨rfl, HW.out _ HBR.out⟩
end Go.Proofs.YtphlhnkenehnnaaGreatDoor
