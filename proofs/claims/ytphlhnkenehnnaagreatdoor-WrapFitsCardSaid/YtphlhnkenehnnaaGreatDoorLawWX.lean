/- The law WrapFits of layer 14: at any line, width and look it answers true, and nothing that was there changes. -/
import Derived.Test.YtphlhnkenehnnaaGreatDoorWorks
import Derived.Test.YtphlhnkenehnnaaGreatDoorWideS
import Derived.Test.YtphlhnkenehnnaaGreatDoorCntL
import Derived.Test.YtphlhnkenehnnaaGreatDoorFitsP
namespace Go.Proofs.YtphlhnkenehnnaaGreatDoor
set_option linter.unusedVariables false
set_option linter.unusedSimpArgs false
open Go.RowKit Go.Proofs Go.Shelf
attribute [local go_sem] Oper.semAt_some

theorem ext_le (s : ByteArray) (a b : Nat) : (s.extract a b).size ≤ s.size := by simp [ByteArray.size_extract]; omega
theorem sum_w (a b e : Nat) (h : a + b = e) (h2 : e ≤ 65536) : wrap64 ((a : Int) + (b : Int)) = (e : Int) := by unfold wrap64; omega
theorem sum_i (a b e : Nat) (h : a + b = e) (h2 : e ≤ 65536) : IntKind.i64.wrap ((a : Int) + (b : Int)) = (e : Int) := by rw [IntKind.wrap_i64]; omega
set_option maxRecDepth 100000 in
set_option maxHeartbeats 2000000 in
theorem LawWX_any (line : ByteArray) (wd tab want : Int) (wideA join raw : Bool) (w : World) (hT : T8 w) (hD : DB w) :
    Calls Tryz.prog 8 #[.string line, .int .i64 wd, lookV tab want wideA join raw] w fun e w' => e = .returned (.bool true) ∧ Below w.heap.size w w' := by
  obtain ⟨X, hX⟩ : ∃ X, rowsI line wd tab want wideA raw = X := ⟨_, rfl⟩
  obtain ⟨hnil, hlen, hfit⟩ := fits_rows line wd tab want wideA raw X hX
  have HNIL := Lib.hid hnil
  have HONE0 : Hid (X ≠ [] → colsI tab wideA raw (textOf line) ≤ wd → X.length = 1) := Lib.hid (fits_one line wd tab want wideA raw X hX)
  have HFIT := Lib.hid hfit
  have HR : Hid (∀ W, T8 W → DB W → Calls Tryz.prog 10 #[.string line, .int .i64 wd, lookV tab want wideA join raw] W fun e w' => ∃ pa cap, e = .returned (.slice pa X.length cap) ∧ RdR w' pa X ∧ Below W.heap.size W w') :=
    Lib.hid fun W h1 h2 => (Rows_any line wd tab want wideA join raw W h1 h2).mono fun e w' ⟨pa, cap, h3, h4, h5⟩ => by
      rw [hX] at h3 h4
      exact ⟨pa, cap, h3, h4.rd, h5⟩
  clear hX hnil hfit
  have HT : Hid (∀ W, Below w.heap.size w W → T8 W) := Lib.hid fun W hb => hT.below rfl hb
  have HD : Hid (∀ W, Below w.heap.size w W → DB W) := Lib.hid fun W hb => hD.below hb
  clear hT hD
  go_enter Tryz.func8, Tryz.ntmps8
  go_upto_region 1 with (fail)
  have hb0 : Below w.heap.size w (w.alloc (.cells #[.int .i64 tab, .bool wideA, .int .i8 want, .bool join, .bool raw] 24)) := (Below.refl _ _).alloc (Nat.le_refl _) _
  have hx0 := World.alloc_heap_new w (.cells #[.int .i64 tab, .bool wideA, .int .i8 want, .bool join, .bool raw] 24)
  generalize w.alloc (.cells #[.int .i64 tab, .bool wideA, .int .i8 want, .bool join, .bool raw] 24) = W0 at hb0 hx0 ⊢
  have hs0 : w.heap.size < W0.heap.size := (Array.getElem?_eq_some_iff.1 hx0).1
  have l0_0 : W0.cell? ⟨w.heap.size, 0, none⟩ = some (.int .i64 tab) := by simp [World.cell?, hx0]
  have l0_1 : W0.cell? ⟨w.heap.size, 1, none⟩ = some (.bool wideA) := by simp [World.cell?, hx0]
  have l0_2 : W0.cell? ⟨w.heap.size, 2, none⟩ = some (.int .i8 want) := by simp [World.cell?, hx0]
  have l0_3 : W0.cell? ⟨w.heap.size, 3, none⟩ = some (.bool join) := by simp [World.cell?, hx0]
  have l0_4 : W0.cell? ⟨w.heap.size, 4, none⟩ = some (.bool raw) := by simp [World.cell?, hx0]
  have HL : Hid (∀ W, Below W0.heap.size W0 W → W.cell? ⟨w.heap.size, 0, none⟩ = some (.int .i64 tab) ∧ W.cell? ⟨w.heap.size, 1, none⟩ = some (.bool wideA) ∧ W.cell? ⟨w.heap.size, 2, none⟩ = some (.int .i8 want) ∧ W.cell? ⟨w.heap.size, 3, none⟩ = some (.bool join) ∧ W.cell? ⟨w.heap.size, 4, none⟩ = some (.bool raw)) :=
    Lib.hid fun W hb => ⟨cell_bl hb hs0 l0_0, cell_bl hb hs0 l0_1, cell_bl hb hs0 l0_2, cell_bl hb hs0 l0_3, cell_bl hb hs0 l0_4⟩
  have HW : Hid (∀ W, Below W0.heap.size W0 W → Below w.heap.size w W) := Lib.hid fun W hb => hb0.trans (hb.mono (by omega))
  have HWK := Lib.hid (works_any W0 (HT.out W0 hb0) (HD.out W0 hb0))
  clear hb0 hx0 l0_0 l0_1 l0_2 l0_3 l0_4
  go_upto_region 3 with (go_at_call 13; refine HWK.out.mono ?_; rintro e w1 ⟨rfl, hb1⟩)
  obtain ⟨l1_0, l1_1, l1_2, l1_3, l1_4⟩ := HL.out _ hb1
  have HR1 := Lib.hid (HR.out w1 (HT.out w1 (HW.out _ hb1)) (HD.out w1 (HW.out _ hb1)))
  have HB1 := Lib.hid hb1
  clear hb1 HR HWK
  go_upto_region 4 with (go_at_call 10; refine HR1.out.mono ?_; rintro e w2 ⟨pa, cap, rfl, hrd, hb2⟩)
  have hb2' := HB1.out.trans (hb2.mono HB1.out.size)
  have HB2 := Lib.hid hb2'
  have HRD := Lib.hid hrd
  clear l1_0 l1_1 l1_2 l1_3 l1_4 hb2 hb2' hrd HR1 HB1
  by_cases h0 : X = []
  · have hn := HNIL.out h0
    subst h0
    by_cases g1 : wd < 1
    · go_wp2_with (fail)
      go_ret
      exact ⟨rfl, HW.out _ HB2.out⟩
    by_cases g2 : wd > 1024
    · go_wp2_with (fail)
      go_ret
      exact ⟨rfl, HW.out _ HB2.out⟩
    have g3 : (line.size : Int) > 65536 := by omega
    go_wp2_with (fail)
    go_ret
    exact ⟨rfl, HW.out _ HB2.out⟩
  have hpos : 0 < X.length := List.length_pos_iff.2 h0
  have hls : line.size ≤ 65536 := (HFIT.out 0 _ (List.getElem?_eq_getElem hpos)).1
  obtain ⟨T, hTT⟩ : ∃ T, textOf line = T := ⟨_, rfl⟩
  have hTz : T.size ≤ 65536 := by have := (textOf_pieces line).1; rw [hTT] at this; omega
  have hone0 := HONE0.out h0
  have hC := countedL_any line (by omega) w2 (HT.out _ (HW.out _ HB2.out))
  rw [hTT] at HFIT hC hone0
  have HONE := Lib.hid hone0
  have HC := Lib.hid hC
  have c0 : ((X.length : Int) == 0) = false := by rw [beq_eq_false_iff_ne]; omega
  obtain ⟨n, hn⟩ : ∃ n, X.length = n := ⟨_, rfl⟩
  rw [hn] at c0 hlen hpos ⊢
  have HN := Lib.hid hn
  clear hC hTT HNIL h0 hn hone0 HONE0
  go_upto_region 7 with (go_at_call 17; refine HC.out.mono ?_; rintro e w3 ⟨rfl, hb3⟩)
  have hb3' := HB2.out.trans (hb3.mono HB2.out.size)
  have HB3 := Lib.hid hb3'
  have HRD3 := Lib.hid (HRD.out.below hb3)
  clear hb3 hb3' HRD HB2 HC
  go_upto_block 0 with (fail)
  go_wp2_with (fail)
  go_loopw [41] (fun u41 wx => ∃ i : Nat, i ≤ n ∧ u41 = .int .i64 i ∧ Below W0.heap.size W0 wx ∧ RdR wx pa X) (fun u41 _ => n - (intOf u41).toNat)
  case atStart => exact ⟨0, by omega, rfl, HB3.out, HRD3.out⟩
  case round =>
    obtain ⟨i, hi, rfl, hbr, hrd⟩ := hrel
    have HBR := Lib.hid hbr
    have HRDr := Lib.hid hrd
    clear hbr hrd HB3 HRD3
    by_cases hlt : i < n
    · obtain ⟨v, hv⟩ : ∃ v, X[i]? = some v := ⟨_, List.getElem?_eq_getElem (by rw [HN.out]; exact hlt)⟩
      obtain ⟨_, a, len, ea, el, hal, hw0, ⟨hf1, hf2⟩, hf3⟩ := HFIT.out i v hv
      obtain ⟨b, off, hpa, hblt, x0, x1, x2, x3, x4⟩ := HRDr.out.at i v hv
      subst hpa
      have HV := Lib.hid hv
      have HEA := Lib.hid ea
      have HEL := Lib.hid el
      clear hv ea el
      go_upto_region 11 with (fail)
      have hb5 : Below wr.heap.size wr (wr.alloc (.cells #[.int .i64 v.a, .int .i64 v.len, .int .u8 v.level, .int .i64 v.wide, .int .i8 v.fin] 30)) := (Below.refl _ _).alloc (Nat.le_refl _) _
      have hy := World.alloc_heap_new wr (.cells #[.int .i64 v.a, .int .i64 v.len, .int .u8 v.level, .int .i64 v.wide, .int .i8 v.fin] 30)
      generalize wr.alloc (.cells #[.int .i64 v.a, .int .i64 v.len, .int .u8 v.level, .int .i64 v.wide, .int .i8 v.fin] 30) = W5 at hb5 hy ⊢
      obtain ⟨R, hR⟩ : ∃ R, wr.heap.size = R := ⟨_, rfl⟩
      rw [hR] at hy ⊢
      have hRlt : R < W5.heap.size := (Array.getElem?_eq_some_iff.1 hy).1
      have y0 : W5.cell? ⟨R, 0, none⟩ = some (.int .i64 a) := by simp [World.cell?, hy, HEA.out]
      have y1 : W5.cell? ⟨R, 1, none⟩ = some (.int .i64 len) := by simp [World.cell?, hy, HEL.out]
      have y3 : W5.cell? ⟨R, 3, none⟩ = some (.int .i64 v.wide) := by simp [World.cell?, hy]
      have y4 : W5.cell? ⟨R, 4, none⟩ = some (.int .i8 v.fin) := by simp [World.cell?, hy]
      have hbw5 : Below W0.heap.size W0 W5 := HBR.out.trans (hb5.mono HBR.out.size)
      have HRD5 := Lib.hid (HRDr.out.below hb5)
      have HB5 := Lib.hid hbw5
      have g1 : ¬ ((a : Int) < 0) := by omega
      have g2 : ¬ ((len : Int) < 0) := by omega
      have g3 : ¬ ((a : Int) > (T.size : Int)) := by omega
      have g4 : ¬ ((len : Int) > (T.size : Int) - (a : Int)) := by omega
      clear x0 x1 x2 x3 x4 hy hb5 hbw5 HRDr HBR hR hblt
      go_upto_region 13 with (fail)
      obtain ⟨e, he⟩ : ∃ e, a + len = e := ⟨_, rfl⟩
      have hwr := sum_i a len e he (by omega)
      rw [he] at hf1 hf2 hf3 hal
      obtain ⟨C, hC⟩ : ∃ C, colsI tab wideA raw (T.extract a e) = C := ⟨_, rfl⟩
      rw [hC] at hf1 hf2
      have hsz : (T.extract a e).size ≤ 2097152 := by simp [ByteArray.size_extract]; omega
      obtain ⟨U, hU⟩ : ∃ U, T.extract a e = U := ⟨_, rfl⟩
      rw [hU] at hC hsz
      have HWD : Hid (∀ W, Below W5.heap.size W5 W → Calls Tryz.prog 21 #[.string U, .int .i64 0, lookV tab want wideA join raw] W fun e w' => e = .returned (.int .i64 C) ∧ Below W5.heap.size W5 w') :=
        Lib.hid fun W hb => (wide_any U hsz tab want wideA join raw W (HT.out _ (HW.out _ (HB5.out.trans (hb.mono HB5.out.size)))) (HD.out _ (HW.out _ (HB5.out.trans (hb.mono HB5.out.size))))).mono fun e' w' ⟨h1, h2⟩ => ⟨by rw [h1, ← hC]; rfl, hb.trans (h2.mono hb.size)⟩
      have HK : Hid (∀ W, Below W5.heap.size W5 W → W.cell? ⟨R, 0, none⟩ = some (.int .i64 a) ∧ W.cell? ⟨R, 1, none⟩ = some (.int .i64 len) ∧ W.cell? ⟨w.heap.size, 0, none⟩ = some (.int .i64 tab) ∧ W.cell? ⟨w.heap.size, 1, none⟩ = some (.bool wideA) ∧ W.cell? ⟨w.heap.size, 2, none⟩ = some (.int .i8 want) ∧ W.cell? ⟨w.heap.size, 3, none⟩ = some (.bool join) ∧ W.cell? ⟨w.heap.size, 4, none⟩ = some (.bool raw) ∧ Below W5.heap.size W5 W) :=
        Lib.hid fun W hb => by
          obtain ⟨q0, q1, q2, q3, q4⟩ := HL.out W (HB5.out.trans (hb.mono HB5.out.size))
          exact ⟨cell_bl hb hRlt y0, cell_bl hb hRlt y1, q0, q1, q2, q3, q4, hb⟩
      obtain ⟨_, _, p0, p1, p2, p3, p4, _⟩ := HK.out W5 (Below.refl _ _)
      have hae : a ≤ e := by omega
      have g5 : (a : Int) ≤ (e : Int) := by omega
      have g6 : (e : Int) ≤ (T.size : Int) := by omega
      clear hC
      go_region_held3 (fun w' => w'.cell? ⟨R, 0, none⟩ = some (.int .i64 a) ∧ w'.cell? ⟨R, 1, none⟩ = some (.int .i64 len) ∧ w'.cell? ⟨w.heap.size, 0, none⟩ = some (.int .i64 tab) ∧ w'.cell? ⟨w.heap.size, 1, none⟩ = some (.bool wideA) ∧ w'.cell? ⟨w.heap.size, 2, none⟩ = some (.int .i8 want) ∧ w'.cell? ⟨w.heap.size, 3, none⟩ = some (.bool join) ∧ w'.cell? ⟨w.heap.size, 4, none⟩ = some (.bool raw) ∧ Below W5.heap.size W5 w')
        ((refine HK.out _ ?_; repeat (first | assumption | exact Below.refl _ _ | refine Below.drew ?_)))
        ((go_at_call 21; refine (HWD.out _ (by repeat (first | assumption | exact Below.refl _ _ | refine Below.drew ?_))).mono ?_; rintro e' w6 ⟨rfl, hb6⟩))
      have HB6 := Lib.hid (HB5.out.trans (hb6.mono HB5.out.size))
      have HRD6 := Lib.hid (HRD5.out.below hb6)
      have HY := Lib.hid (⟨cell_bl hb6 hRlt y0, cell_bl hb6 hRlt y1, cell_bl hb6 hRlt y3, cell_bl hb6 hRlt y4⟩ : w6.cell? ⟨R, 0, none⟩ = some (.int .i64 a) ∧ w6.cell? ⟨R, 1, none⟩ = some (.int .i64 len) ∧ w6.cell? ⟨R, 3, none⟩ = some (.int .i64 v.wide) ∧ w6.cell? ⟨R, 4, none⟩ = some (.int .i8 v.fin))
      have hR6 : R < w6.heap.size := Nat.lt_of_lt_of_le hRlt hb6.size
      clear y0 y1 y3 y4 p0 p1 p2 p3 p4 HWD HK HB5 HRD5 hb6
      obtain ⟨z0, z1, z3, z4⟩ := HY.out
      have g7 : ¬ (v.wide > C) := by omega
      have hmid : v.wide < C ∧ ¬ (C ≤ wd) ∨ ¬ (v.wide < C) := by
        by_cases hh : v.wide < C
        · have := hf2 hh; exact .inl ⟨hh, by omega⟩
        · exact .inr hh
      have HF3 := Lib.hid hf3
      clear hf1 hf2 hf3
      rcases hmid with ⟨g8, g9⟩ | g8
      all_goals
        go_upto_region 16 with (fail)
        by_cases hk : i + 1 < n
        · by_cases h3 : v.fin = 3
          · have g10 : (i : Int) + 1 < (n : Int) := by omega
            rw [h3] at z4
            obtain ⟨hu1, hu2⟩ := HF3.out h3
            obtain ⟨m, hm⟩ : ∃ m, nextI (T.extract e T.size) = m := ⟨_, rfl⟩
            rw [hm] at hu1 hu2
            go_upto_region 17 with (fail)
            have hNX := Next_any (T.extract e T.size) w6 (HT.out _ (HW.out _ HB6.out)) (Nat.le_trans (ext_le T e T.size) (Nat.le_trans hTz (by decide)))
            rw [hm] at hNX
            have HNX := Lib.hid hNX
            obtain ⟨V, hV⟩ : ∃ V, T.extract e T.size = V := ⟨_, rfl⟩
            rw [hV] at HNX
            have ge : (0 : Int) ≤ (e : Int) := Int.natCast_nonneg e
            have ew := sum_w a len e he (Nat.le_trans hal hTz)
            have HU := Lib.hid hu1
            have HU2 := Lib.hid hu2
            have HE := Lib.hid he
            have HTZ := Lib.hid hTz
            have HIL := Lib.hid hlt
            have HLEN := Lib.hid hlen
            have HR6 := Lib.hid hR6
            have HAE := Lib.hid hae
            clear hNX hm hu1 hu2 he hTz hlt hlen hR6 hae hwr hw0 hsz g1 g2 g3 g4 g7 g10 hi hls hpos c0 hU z3 z4 hk hal hs0
            go_upto_region 18 with (go_at_call 22; refine HNX.out.mono ?_; rintro e' w7 ⟨rfl, hb7⟩)
            have hb67 : Below W0.heap.size W0 w7 := HB6.out.trans (hb7.mono HB6.out.size)
            have HB7 := Lib.hid hb67
            have HRD7 := Lib.hid (HRD6.out.below hb7)
            have hR7 : R < w7.heap.size := Nat.lt_of_lt_of_le HR6.out hb7.size
            obtain ⟨z0, z1, _, _⟩ := HY.out
            replace z0 : w7.cell? ⟨R, 0, none⟩ = some (.int .i64 a) := cell_bl hb7 HR6.out z0
            replace z1 : w7.cell? ⟨R, 1, none⟩ = some (.int .i64 len) := cell_bl hb7 HR6.out z1
            clear hb7 hb67 HNX ew hV HY
            obtain ⟨f, hf⟩ : ∃ f, e + m = f := ⟨_, rfl⟩
            have hwr := sum_i a len e HE.out (by have := HTZ.out; omega)
            have hwf := sum_i e m f hf (by have := HTZ.out; have := HU.out; omega)
            have hC2 := HU2.out
            rw [hf] at hC2
            obtain ⟨C2, hC⟩ : ∃ C2, colsI tab wideA raw (T.extract a f) = C2 := ⟨_, rfl⟩
            rw [hC] at hC2
            have hsz : (T.extract a f).size ≤ 2097152 := Nat.le_trans (ext_le T a f) (Nat.le_trans HTZ.out (by decide))
            obtain ⟨U2, hU2⟩ : ∃ U2, T.extract a f = U2 := ⟨_, rfl⟩
            rw [hU2] at hC hsz
            have HWD : Hid (∀ W, Below w7.heap.size w7 W → Calls Tryz.prog 21 #[.string U2, .int .i64 0, lookV tab want wideA join raw] W fun e w' => e = .returned (.int .i64 C2) ∧ Below w7.heap.size w7 w') :=
              Lib.hid fun W hb => (wide_any U2 hsz tab want wideA join raw W (HT.out _ (HW.out _ (HB7.out.trans (hb.mono HB7.out.size)))) (HD.out _ (HW.out _ (HB7.out.trans (hb.mono HB7.out.size))))).mono fun e' w' ⟨h1, h2⟩ => ⟨by rw [h1, ← hC]; rfl, hb.trans (h2.mono hb.size)⟩
            have HK : Hid (∀ W, Below w7.heap.size w7 W → W.cell? ⟨R, 0, none⟩ = some (.int .i64 a) ∧ W.cell? ⟨R, 1, none⟩ = some (.int .i64 len) ∧ W.cell? ⟨w.heap.size, 0, none⟩ = some (.int .i64 tab) ∧ W.cell? ⟨w.heap.size, 1, none⟩ = some (.bool wideA) ∧ W.cell? ⟨w.heap.size, 2, none⟩ = some (.int .i8 want) ∧ W.cell? ⟨w.heap.size, 3, none⟩ = some (.bool join) ∧ W.cell? ⟨w.heap.size, 4, none⟩ = some (.bool raw) ∧ Below w7.heap.size w7 W) :=
              Lib.hid fun W hb => by
                obtain ⟨q0, q1, q2, q3, q4⟩ := HL.out W (HB7.out.trans (hb.mono HB7.out.size))
                exact ⟨cell_bl hb hR7 z0, cell_bl hb hR7 z1, q0, q1, q2, q3, q4, hb⟩
            obtain ⟨_, _, p0, p1, p2, p3, p4, _⟩ := HK.out w7 (Below.refl _ _)
            have haf : a ≤ f := by have := HAE.out; omega
            have g15 : (a : Int) ≤ (f : Int) := by omega
            have hft : f ≤ T.size := by have := HU.out; omega
            have g16 : (f : Int) ≤ (T.size : Int) := by omega
            have g17 : (0 : Int) ≤ (f : Int) := by omega
            have g18 : ¬ (C2 ≤ wd) := by omega
            have HFT := Lib.hid hft
            have HF := Lib.hid hf
            clear hC hf hft hC2 hsz
            go_region_held3 (fun w' => w'.cell? ⟨R, 0, none⟩ = some (.int .i64 a) ∧ w'.cell? ⟨R, 1, none⟩ = some (.int .i64 len) ∧ w'.cell? ⟨w.heap.size, 0, none⟩ = some (.int .i64 tab) ∧ w'.cell? ⟨w.heap.size, 1, none⟩ = some (.bool wideA) ∧ w'.cell? ⟨w.heap.size, 2, none⟩ = some (.int .i8 want) ∧ w'.cell? ⟨w.heap.size, 3, none⟩ = some (.bool join) ∧ w'.cell? ⟨w.heap.size, 4, none⟩ = some (.bool raw) ∧ Below w7.heap.size w7 w')
              ((refine HK.out _ ?_; repeat (first | assumption | exact Below.refl _ _ | refine Below.drew ?_)))
              ((go_at_call 21; refine (HWD.out _ (by repeat (first | assumption | exact Below.refl _ _ | refine Below.drew ?_))).mono ?_; rintro e' w8 ⟨rfl, hb8⟩))
            have HB8 := Lib.hid (HB7.out.trans (hb8.mono HB7.out.size))
            have HRD8 := Lib.hid (HRD7.out.below hb8)
            clear p0 p1 p2 p3 p4 HWD HK HB7 HRD7 hb8 z0 z1 hwr hwf
            have hi0 : i + 1 ≤ n := HIL.out
            have hlen := HLEN.out
            go_wp2_with (fail)
            go_roundw
            case rel => exact ⟨i + 1, hi0, by go_num, HB8.out, HRD8.out⟩
            case measure => simp [intOf]; omega
          · have g11 : (v.fin == 3) = false := by rw [beq_eq_false_iff_ne]; exact h3
            go_wp2_with (fail)
            go_roundw
            case rel => exact ⟨i + 1, by omega, by go_num, HB6.out, HRD6.out⟩
            case measure => simp [intOf]; omega
        · have g10 : ¬ ((i : Int) + 1 < (n : Int)) := by omega
          go_wp2_with (fail)
          go_roundw
          case rel => exact ⟨i + 1, by omega, by go_num, HB6.out, HRD6.out⟩
          case measure => simp [intOf]; omega
    · obtain rfl : i = n := by omega
      obtain ⟨p0, p1, p2, p3, p4⟩ := HL.out _ HBR.out
      have hWD := wide_any T (Nat.le_trans hTz (by decide)) tab want wideA join raw wr (HT.out _ (HW.out _ HBR.out)) (HD.out _ (HW.out _ HBR.out))
      obtain ⟨C, hC⟩ : ∃ C, wideF tab wideA raw ((piecesI T).map (·.2)) 0 = C := ⟨_, rfl⟩
      rw [hC] at hWD
      have hone : C ≤ wd → i = 1 := fun h => by
        rw [← HN.out]
        exact HONE.out (by rw [show colsI tab wideA raw T = wideF tab wideA raw ((piecesI T).map (·.2)) 0 from rfl, hC]; exact h)
      have HWD := Lib.hid hWD
      have HWF := Lib.hid (fun w' (h : Below wr.heap.size wr w') => HW.out w' (HBR.out.trans (h.mono HBR.out.size)))
      clear hC hWD hlt HRDr
      by_cases hc : C > wd
      · clear hone
        go_wp2_with (go_at_call 21; refine HWD.out.mono ?_; rintro e w8 ⟨rfl, hb8⟩)
        go_ret
        exact ⟨rfl, HWF.out _ hb8⟩
      · obtain rfl := hone (by omega)
        go_wp2_with (go_at_call 21; refine HWD.out.mono ?_; rintro e w8 ⟨rfl, hb8⟩)
        go_ret
        exact ⟨rfl, HWF.out _ hb8⟩
end Go.Proofs.YtphlhnkenehnnaaGreatDoor
