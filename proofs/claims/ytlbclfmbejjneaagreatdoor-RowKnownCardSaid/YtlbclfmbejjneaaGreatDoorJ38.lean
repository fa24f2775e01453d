/- Part 38 of the proof (merged by a program out of the texts EdgeW, SpecS): lemmas of no further condition than each states. -/
import Derived.Test.YtlbclfmbejjneaaGreatDoorJ37
namespace Go.Proofs.YtlbclfmbejjneaaGreatDoor
set_option linter.unusedVariables false
set_option linter.unusedSimpArgs false
section
open Go.RowKit Go.Proofs Go.Shelf
attribute [local go_sem] Oper.semAt_some
theorem pc_cells {w : World} {b : Nat} {la : Option Addr} {lcap : Nat} {L : List Pc} (hO : OwnS pcE 75 w (b + 1) (.slice la L.length lcap) L) (i : Nat) (p : Pc) (hp : L[i]? = some p) :
 ∃ G, la = some ⟨G, 0, none⟩ ∧ G < w.heap.size ∧ w.cell? ⟨G, i * 10, none⟩ = some (.int .i64 p.a) ∧ w.cell? ⟨G, i * 10 + 1, none⟩ = some (.int .i64 p.size) ∧ w.cell? ⟨G, i * 10 + 2, none⟩ = some (.int .i64 p.c0) ∧ w.cell? ⟨G, i * 10 + 3, none⟩ = some (.int .i64 p.c1) ∧
   w.cell? ⟨G, i * 10 + 4, none⟩ = some (.int .u8 p.level) ∧ w.cell? ⟨G, i * 10 + 5, none⟩ = some (.string p.became) ∧ w.cell? ⟨G, i * 10 + 6, none⟩ = some (.string p.shown) ∧ w.cell? ⟨G, i * 10 + 7, none⟩ = some (.int .i64 p.wide) ∧ w.cell? ⟨G, i * 10 + 8, none⟩ = some (.int .i64 p.e0) ∧ w.cell? ⟨G, i * 10 + 9, none⟩ = some (.int .i64 p.e1) := by
 obtain ⟨G, eG, hGb, hGl, hc, _⟩ := hO.at i p hp
 exact ⟨G, eG, hGl, hc 0 _ rfl, hc 1 _ rfl, hc 2 _ rfl, hc 3 _ rfl, hc 4 _ rfl, hc 5 _ rfl, hc 6 _ rfl, hc 7 _ rfl, hc 8 _ rfl, hc 9 _ rfl⟩
set_option maxRecDepth 100000 in
set_option maxHeartbeats 2000000 in
theorem rEdge_any (b : Nat) (R : LaidR) (i : Nat) (back : Bool) (w : World) (hL : LaidW w b R) (hi : i ≤ R.l.length) (hbs : R.base < 256) (hlv : ∀ p ∈ R.l, p.level < 256) (hn : R.l.length ≤ 2097152) :
 Calls Tryz.prog 41 #[.pointer (some ⟨b, 0, none⟩), .int .i64 i, .bool back] w fun e w' => e = .returned (.int .i64 (edgeI R i back)) ∧ Below w.heap.size w w' := by
 obtain ⟨L, seen, fr, tt, bs, x⟩ := R
 obtain ⟨la, lcap, va, vc, h1, h2, h3⟩ := hL
 dsimp only at h1 h2 h3 hi hbs hlv hn
 obtain ⟨V, hV⟩ : ∃ V, edgeI ⟨L, seen, fr, tt, bs, x⟩ i back = V := ⟨_, rfl⟩
 rw [hV]
 have hbl := h1.lt
 have hE1 : V = if back = true ∧ i = 0 then (if bs % 2 = 1 then x else 0)
  else if back = true then (if oddB (L.getD (i - 1) default) = true then (L.getD (i - 1) default).e0 else (L.getD (i - 1) default).e1)
  else if i = L.length then (if bs % 2 = 1 then 0 else x)
  else (if oddB (L.getD i default) = true then (L.getD i default).e1 else (L.getD i default).e0) := by rw [← hV]; rfl
 have HV := Lib.hid hE1
 have hbb : bits .and .u8 (bs : Int) 1 = ((bs % 2 : Nat) : Int) := bits_level bs hbs
 obtain ⟨n, hLn⟩ : ∃ n, L.length = n := ⟨_, rfl⟩
 rw [hLn] at h1 hi hn
 have H1 := Lib.hid h1
 have H2 := Lib.hid h2
 have HLV := Lib.hid hlv
 have d0 := h1.cells.1
 have d4 := h1.cells.2.2.2.2.1
 have d5 := h1.cells.2.2.2.2.2
 clear hE1 hV h1 h2 h3 hlv
 go_enter Tryz.func41, Tryz.ntmps41
 cases back with
 | true =>
   by_cases h0 : i = 0
   ·subst h0
    go_upto_region 3 with (fail)
    have hb1 : Below w.heap.size w (w.alloc (.cells #[.int .i64 0, .int .i64 x] 59)) := (Below.refl _ _).alloc (Nat.le_refl _) _
    have hx1 := World.alloc_heap_new w (.cells #[.int .i64 0, .int .i64 x] 59)
    have hL1 := H1.out.below hb1 hbl
    have hO1 := H2.out.keep hb1
    generalize w.alloc (.cells #[.int .i64 0, .int .i64 x] 59) = W1 at hb1 hx1 hL1 hO1 ⊢
    obtain ⟨B, hB⟩ : ∃ B, w.heap.size = B := ⟨_, rfl⟩
    have HB1 := Lib.hid hb1
    rw [hB] at hx1 ⊢
    clear d0 d4 d5
    have e0 : W1.cell? ⟨B, 0, none⟩ = some (.int .i64 0) := by simp [World.cell?, hx1]
    have e1 : W1.cell? ⟨B, 1, none⟩ = some (.int .i64 x) := by simp [World.cell?, hx1]
    have d4 := hL1.cells.2.2.2.2.1
    clear hx1 hb1 hL1 hO1
    rcases Nat.mod_two_eq_zero_or_one bs with h2 | h2
    ·rw [h2] at hbb
     have hz : IntKind.u8.wrap (1 - ((0 : Nat) : Int)) = 1 := by decide
     have hv : V = 0 := by rw [HV.out]; simp [h2]
     have HV2 := Lib.hid hv
     clear hv HV
     go_wp2_with (fail)
     go_ret
     exact ⟨ret_i (by rw [HV2.out]), HB1.out⟩
    ·rw [h2] at hbb
     have hz : IntKind.u8.wrap (1 - ((1 : Nat) : Int)) = 0 := by decide
     have hv : V = x := by rw [HV.out]; simp [h2]
     have HV2 := Lib.hid hv
     clear hv HV
     go_wp2_with (fail)
     go_ret
     exact ⟨ret_i (by rw [HV2.out]), HB1.out⟩
   ·go_upto_region 5 with (fail)
    have hb1 : Below w.heap.size w (w.alloc (.cells #[.int .i64 0, .int .i64 x] 59)) := (Below.refl _ _).alloc (Nat.le_refl _) _
    have hx1 := World.alloc_heap_new w (.cells #[.int .i64 0, .int .i64 x] 59)
    have hL1 := H1.out.below hb1 hbl
    have hO1 := H2.out.keep hb1
    generalize w.alloc (.cells #[.int .i64 0, .int .i64 x] 59) = W1 at hb1 hx1 hL1 hO1 ⊢
    obtain ⟨B, hB⟩ : ∃ B, w.heap.size = B := ⟨_, rfl⟩
    have HB1 := Lib.hid hb1
    rw [hB] at hx1 ⊢
    clear d0 d4 d5
    obtain ⟨p, hp⟩ : ∃ p, L[i - 1]? = some p := ⟨_, List.getElem?_eq_getElem (by omega)⟩
    have hpg : L.getD (i - 1) default = p := by rw [List.getD_eq_getElem?_getD, hp]; rfl
    have hpl := HLV.out p (List.mem_of_getElem? hp)
    obtain ⟨G, eG, hGl, y0, y1, y2, y3, y4, y5, y6, y7, y8, y9⟩ := pc_cells hO1 (i - 1) p hp
    subst eG
    have d0 := hL1.cells.1
    have hwi : IntKind.i64.wrap ((i : Int) - 1) = ((i - 1 : Nat) : Int) := by rw [IntKind.wrap_i64]; omega
    have hi1 : ((i - 1 : Nat) : Int) < (n : Int) := by omega
    clear hx1 hb1 hL1 hO1 hp
    go_upto_region 6 with (fail)
    have hb2 : Below W1.heap.size W1 (W1.alloc (.cells #[.int .i64 p.a, .int .i64 p.size, .int .i64 p.c0, .int .i64 p.c1, .int .u8 p.level, .string p.became, .string p.shown, .int .i64 p.wide, .int .i64 p.e0, .int .i64 p.e1] 75)) := (Below.refl _ _).alloc (Nat.le_refl _) _
    have hx2 := World.alloc_heap_new W1 (.cells #[.int .i64 p.a, .int .i64 p.size, .int .i64 p.c0, .int .i64 p.c1, .int .u8 p.level, .string p.became, .string p.shown, .int .i64 p.wide, .int .i64 p.e0, .int .i64 p.e1] 75)
    generalize W1.alloc (.cells #[.int .i64 p.a, .int .i64 p.size, .int .i64 p.c0, .int .i64 p.c1, .int .u8 p.level, .string p.became, .string p.shown, .int .i64 p.wide, .int .i64 p.e0, .int .i64 p.e1] 75) = W2 at hb2 hx2 ⊢
    obtain ⟨P, hP⟩ : ∃ P, W1.heap.size = P := ⟨_, rfl⟩
    have HB2 := Lib.hid (HB1.out.trans (hb2.mono HB1.out.size))
    rw [hP] at hx2 ⊢
    have hOD := odd_any p hpl W2
    have hv : V = if p.level % 2 = 1 then p.e0 else p.e1 := by
     rw [HV.out, if_neg (by simp [h0]), if_pos rfl, hpg]
     unfold oddB
     simp
    have HX2 := Lib.hid hx2
    have hPs : P < W2.heap.size := (Array.getElem?_eq_some_iff.1 hx2).1
    have HV2 := Lib.hid hv
    clear y0 y1 y2 y3 y4 y5 y6 y7 y8 y9 d0 hb2 hv HV hpg
    have z0 : W2.cell? ⟨P, 0, none⟩ = some (.int .i64 p.a) := by simp [World.cell?, hx2]
    have z1 : W2.cell? ⟨P, 1, none⟩ = some (.int .i64 p.size) := by simp [World.cell?, hx2]
    have z2 : W2.cell? ⟨P, 2, none⟩ = some (.int .i64 p.c0) := by simp [World.cell?, hx2]
    have z3 : W2.cell? ⟨P, 3, none⟩ = some (.int .i64 p.c1) := by simp [World.cell?, hx2]
    have z4 : W2.cell? ⟨P, 4, none⟩ = some (.int .u8 p.level) := by simp [World.cell?, hx2]
    have z5 : W2.cell? ⟨P, 5, none⟩ = some (.string p.became) := by simp [World.cell?, hx2]
    have z6 : W2.cell? ⟨P, 6, none⟩ = some (.string p.shown) := by simp [World.cell?, hx2]
    have z7 : W2.cell? ⟨P, 7, none⟩ = some (.int .i64 p.wide) := by simp [World.cell?, hx2]
    have z8 : W2.cell? ⟨P, 8, none⟩ = some (.int .i64 p.e0) := by simp [World.cell?, hx2]
    have z9 : W2.cell? ⟨P, 9, none⟩ = some (.int .i64 p.e1) := by simp [World.cell?, hx2]
    have HK2 : Hid (∀ W, Below W2.heap.size W2 W → W.cell? ⟨P, 8, none⟩ = some (.int .i64 p.e0) ∧ W.cell? ⟨P, 9, none⟩ = some (.int .i64 p.e1)) := Lib.hid fun W hb => by
     have := (hb.block P hPs).trans HX2.out
     constructor <;> simp [World.cell?, this]
    clear hx2
    rcases Nat.mod_two_eq_zero_or_one p.level with h2 | h2
    ·rw [h2] at hOD HV2
     have HOD := Lib.hid hOD
     have HV3 : Hid (V = p.e1) := Lib.hid (by rw [HV2.out]; simp)
     have hz : IntKind.i64.wrap (1 - ((0 : Nat) : Int)) = 1 := by decide
     clear hOD HV2
     go_wp2_with (go_at_call 53; refine HOD.out.mono ?_; rintro e w3 ⟨rfl, hb3⟩; obtain ⟨z8', z9'⟩ := HK2.out w3 hb3)
     go_ret
     exact ⟨ret_i (by rw [HV3.out]), HB2.out.trans (hb3.mono HB2.out.size)⟩
    ·rw [h2] at hOD HV2
     have HOD := Lib.hid hOD
     have HV3 : Hid (V = p.e0) := Lib.hid (by rw [HV2.out]; simp)
     have hz : IntKind.i64.wrap (1 - ((1 : Nat) : Int)) = 0 := by decide
     clear hOD HV2
     go_wp2_with (go_at_call 53; refine HOD.out.mono ?_; rintro e w3 ⟨rfl, hb3⟩; obtain ⟨z8', z9'⟩ := HK2.out w3 hb3)
     go_ret
     exact ⟨ret_i (by rw [HV3.out]), HB2.out.trans (hb3.mono HB2.out.size)⟩
 | false =>
   by_cases hin : i = n
   ·go_upto_region 8 with (fail)
    have hb1 : Below w.heap.size w (w.alloc (.cells #[.int .i64 0, .int .i64 x] 59)) := (Below.refl _ _).alloc (Nat.le_refl _) _
    have hx1 := World.alloc_heap_new w (.cells #[.int .i64 0, .int .i64 x] 59)
    have hL1 := H1.out.below hb1 hbl
    have hO1 := H2.out.keep hb1
    generalize w.alloc (.cells #[.int .i64 0, .int .i64 x] 59) = W1 at hb1 hx1 hL1 hO1 ⊢
    obtain ⟨B, hB⟩ : ∃ B, w.heap.size = B := ⟨_, rfl⟩
    have HB1 := Lib.hid hb1
    rw [hB] at hx1 ⊢
    clear d0 d4 d5
    have e0 : W1.cell? ⟨B, 0, none⟩ = some (.int .i64 0) := by simp [World.cell?, hx1]
    have e1 : W1.cell? ⟨B, 1, none⟩ = some (.int .i64 x) := by simp [World.cell?, hx1]
    have d4 := hL1.cells.2.2.2.2.1
    clear hx1 hb1 hL1 hO1
    rcases Nat.mod_two_eq_zero_or_one bs with h2 | h2
    ·rw [h2] at hbb
     have hz : IntKind.u8.wrap (1 - ((0 : Nat) : Int)) = 1 := by decide
     have hv : V = x := by rw [HV.out]; simp [h2, hin, hLn]
     have HV2 := Lib.hid hv
     clear hv HV
     go_wp2_with (fail)
     go_ret
     exact ⟨ret_i (by rw [HV2.out]), HB1.out⟩
    ·rw [h2] at hbb
     have hz : IntKind.u8.wrap (1 - ((1 : Nat) : Int)) = 0 := by decide
     have hv : V = 0 := by rw [HV.out]; simp [h2, hin, hLn]
     have HV2 := Lib.hid hv
     clear hv HV
     go_wp2_with (fail)
     go_ret
     exact ⟨ret_i (by rw [HV2.out]), HB1.out⟩
   ·go_upto_region 9 with (fail)
    have hb1 : Below w.heap.size w (w.alloc (.cells #[.int .i64 0, .int .i64 x] 59)) := (Below.refl _ _).alloc (Nat.le_refl _) _
    have hx1 := World.alloc_heap_new w (.cells #[.int .i64 0, .int .i64 x] 59)
    have hL1 := H1.out.below hb1 hbl
    have hO1 := H2.out.keep hb1
    generalize w.alloc (.cells #[.int .i64 0, .int .i64 x] 59) = W1 at hb1 hx1 hL1 hO1 ⊢
    obtain ⟨B, hB⟩ : ∃ B, w.heap.size = B := ⟨_, rfl⟩
    have HB1 := Lib.hid hb1
    rw [hB] at hx1 ⊢
    clear d0 d4 d5
    obtain ⟨p, hp⟩ : ∃ p, L[i]? = some p := ⟨_, List.getElem?_eq_getElem (by omega)⟩
    have hpg : L.getD i default = p := by rw [List.getD_eq_getElem?_getD, hp]; rfl
    have hpl := HLV.out p (List.mem_of_getElem? hp)
    have hls := hL1.lt
    have hKC : ∀ W, Below W1.heap.size W1 W → ∃ G, la = some ⟨G, 0, none⟩ ∧ W.cell? ⟨G, i * 10, none⟩ = some (.int .i64 p.a) ∧ W.cell? ⟨G, i * 10 + 1, none⟩ = some (.int .i64 p.size) ∧ W.cell? ⟨G, i * 10 + 2, none⟩ = some (.int .i64 p.c0) ∧ W.cell? ⟨G, i * 10 + 3, none⟩ = some (.int .i64 p.c1) ∧
     W.cell? ⟨G, i * 10 + 4, none⟩ = some (.int .u8 p.level) ∧ W.cell? ⟨G, i * 10 + 5, none⟩ = some (.string p.became) ∧ W.cell? ⟨G, i * 10 + 6, none⟩ = some (.string p.shown) ∧ W.cell? ⟨G, i * 10 + 7, none⟩ = some (.int .i64 p.wide) ∧ W.cell? ⟨G, i * 10 + 8, none⟩ = some (.int .i64 p.e0) ∧ W.cell? ⟨G, i * 10 + 9, none⟩ = some (.int .i64 p.e1) ∧
     W.cell? ⟨b, 0, none⟩ = some (.slice la n lcap) := fun W hb => by
     obtain ⟨G, eG, _, y0, y1, y2, y3, y4, y5, y6, y7, y8, y9⟩ := pc_cells (hO1.keep hb) i p hp
     exact ⟨G, eG, y0, y1, y2, y3, y4, y5, y6, y7, y8, y9, (hL1.below hb hls).cells.1⟩
    obtain ⟨G, eG, _⟩ := hKC W1 (Below.refl _ _)
    subst eG
    have HKC : Hid (∀ W, Below W1.heap.size W1 W → W.cell? ⟨G, i * 10, none⟩ = some (.int .i64 p.a) ∧ W.cell? ⟨G, i * 10 + 1, none⟩ = some (.int .i64 p.size) ∧ W.cell? ⟨G, i * 10 + 2, none⟩ = some (.int .i64 p.c0) ∧ W.cell? ⟨G, i * 10 + 3, none⟩ = some (.int .i64 p.c1) ∧
     W.cell? ⟨G, i * 10 + 4, none⟩ = some (.int .u8 p.level) ∧ W.cell? ⟨G, i * 10 + 5, none⟩ = some (.string p.became) ∧ W.cell? ⟨G, i * 10 + 6, none⟩ = some (.string p.shown) ∧ W.cell? ⟨G, i * 10 + 7, none⟩ = some (.int .i64 p.wide) ∧ W.cell? ⟨G, i * 10 + 8, none⟩ = some (.int .i64 p.e0) ∧ W.cell? ⟨G, i * 10 + 9, none⟩ = some (.int .i64 p.e1) ∧
     W.cell? ⟨b, 0, none⟩ = some (.slice (some ⟨G, 0, none⟩) n lcap) ∧ Below W1.heap.size W1 W) := Lib.hid fun W hb => by
     obtain ⟨G', eG, y0, y1, y2, y3, y4, y5, y6, y7, y8, y9, y10⟩ := hKC W hb
     cases eG
     exact ⟨y0, y1, y2, y3, y4, y5, y6, y7, y8, y9, y10, hb⟩
    obtain ⟨y0, y1, y2, y3, y4, y5, y6, y7, y8, y9, y10, hbr⟩ := HKC.out W1 (Below.refl _ _)
    have hin1 : (i : Int) < (n : Int) := by omega
    have hv : V = if p.level % 2 = 1 then p.e1 else p.e0 := by
     rw [HV.out, if_neg (by simp), if_neg (by simp), if_neg (by rw [hLn]; exact hin), hpg]
     unfold oddB
     simp
    clear hx1 hb1 hL1 hO1 hp hKC hpg HV
    rcases Nat.mod_two_eq_zero_or_one p.level with h2 | h2
    ·have HOD : Hid (∀ W, Below W1.heap.size W1 W → Calls Tryz.prog 53 #[.agg #[.int .i64 p.a, .int .i64 p.size, .int .i64 p.c0, .int .i64 p.c1, .int .u8 p.level, .string p.became, .string p.shown, .int .i64 p.wide, .int .i64 p.e0, .int .i64 p.e1]] W fun e w' => e = .returned (.int .i64 (0 : Int)) ∧ Below W1.heap.size W1 w') := Lib.hid fun W hb => (odd_any p hpl W).mono fun e w' ⟨h, hb'⟩ => ⟨by rw [h, h2]; rfl, hb.trans (hb'.mono hb.size)⟩
     have HV3 : Hid (V = p.e0) := Lib.hid (by rw [hv, h2]; simp)
     clear hv
     go_region_held3 (fun w' => w'.cell? ⟨G, i * 10, none⟩ = some (.int .i64 p.a) ∧ w'.cell? ⟨G, i * 10 + 1, none⟩ = some (.int .i64 p.size) ∧ w'.cell? ⟨G, i * 10 + 2, none⟩ = some (.int .i64 p.c0) ∧ w'.cell? ⟨G, i * 10 + 3, none⟩ = some (.int .i64 p.c1) ∧
      w'.cell? ⟨G, i * 10 + 4, none⟩ = some (.int .u8 p.level) ∧ w'.cell? ⟨G, i * 10 + 5, none⟩ = some (.string p.became) ∧ w'.cell? ⟨G, i * 10 + 6, none⟩ = some (.string p.shown) ∧ w'.cell? ⟨G, i * 10 + 7, none⟩ = some (.int .i64 p.wide) ∧ w'.cell? ⟨G, i * 10 + 8, none⟩ = some (.int .i64 p.e0) ∧ w'.cell? ⟨G, i * 10 + 9, none⟩ = some (.int .i64 p.e1) ∧
      w'.cell? ⟨b, 0, none⟩ = some (.slice (some ⟨G, 0, none⟩) n lcap) ∧ Below W1.heap.size W1 w')
      ((refine HKC.out _ ?_; (repeat (first | assumption | refine Below.drew ?_))))
      ((go_at_call 53; refine (HOD.out _ (by (repeat (first | assumption | refine Below.drew ?_)))).mono ?_; rintro e w3 ⟨rfl, hb3⟩))
     go_wp2_with (fail)
     go_ret
     exact ⟨ret_i (by rw [HV3.out]), HB1.out.trans (hb3.mono HB1.out.size)⟩
    ·have HOD : Hid (∀ W, Below W1.heap.size W1 W → Calls Tryz.prog 53 #[.agg #[.int .i64 p.a, .int .i64 p.size, .int .i64 p.c0, .int .i64 p.c1, .int .u8 p.level, .string p.became, .string p.shown, .int .i64 p.wide, .int .i64 p.e0, .int .i64 p.e1]] W fun e w' => e = .returned (.int .i64 (1 : Int)) ∧ Below W1.heap.size W1 w') := Lib.hid fun W hb => (odd_any p hpl W).mono fun e w' ⟨h, hb'⟩ => ⟨by rw [h, h2]; rfl, hb.trans (hb'.mono hb.size)⟩
     have HV3 : Hid (V = p.e1) := Lib.hid (by rw [hv, h2]; simp)
     clear hv
     go_region_held3 (fun w' => w'.cell? ⟨G, i * 10, none⟩ = some (.int .i64 p.a) ∧ w'.cell? ⟨G, i * 10 + 1, none⟩ = some (.int .i64 p.size) ∧ w'.cell? ⟨G, i * 10 + 2, none⟩ = some (.int .i64 p.c0) ∧ w'.cell? ⟨G, i * 10 + 3, none⟩ = some (.int .i64 p.c1) ∧
      w'.cell? ⟨G, i * 10 + 4, none⟩ = some (.int .u8 p.level) ∧ w'.cell? ⟨G, i * 10 + 5, none⟩ = some (.string p.became) ∧ w'.cell? ⟨G, i * 10 + 6, none⟩ = some (.string p.shown) ∧ w'.cell? ⟨G, i * 10 + 7, none⟩ = some (.int .i64 p.wide) ∧ w'.cell? ⟨G, i * 10 + 8, none⟩ = some (.int .i64 p.e0) ∧ w'.cell? ⟨G, i * 10 + 9, none⟩ = some (.int .i64 p.e1) ∧
      w'.cell? ⟨b, 0, none⟩ = some (.slice (some ⟨G, 0, none⟩) n lcap) ∧ Below W1.heap.size W1 w')
      ((refine HKC.out _ ?_; (repeat (first | assumption | refine Below.drew ?_))))
      ((go_at_call 53; refine (HOD.out _ (by (repeat (first | assumption | refine Below.drew ?_)))).mono ?_; rintro e w3 ⟨rfl, hb3⟩))
     go_wp2_with (fail)
     go_ret
     exact ⟨ret_i (by rw [HV3.out]), HB1.out.trans (hb3.mono HB1.out.size)⟩
end
section
structure St where
 a : Nat
 back : Bool
 x : Int
deriving DecidableEq
instance : Inhabited St := ⟨⟨0, false, 0⟩⟩
def hasA (W : LaidR) (cut : Bool) (p : Nat) : Bool := decide (p < W.tt) || !cut || decide (W.fr = W.tt)
def hasB (W : LaidR) (cut : Bool) (i p : Nat) : Bool := decide (W.fr < p) && (decide (edgeI W i false ≠ edgeI W i true) || (cut && decide (p = W.tt)))
def stopAt (W : LaidR) (cut : Bool) (i p : Nat) : List St :=
 (if hasA W cut p = true then [⟨p, false, edgeI W i false⟩] else []) ++ (if hasB W cut i p = true then [⟨p, true, edgeI W i true⟩] else [])
def stopsF (W : LaidR) (cut : Bool) : List Pc → Nat → List St
 | [], i => stopAt W cut i W.tt
 | p :: t, i => stopAt W cut i p.a ++ stopsF W cut t (i + 1)
def cutB (fin : Int) : Bool := decide (fin = 2) || decide (fin = 3)
def swapL (l : List St) (j : Nat) : List St := (l.set (j + 1) (l.getD j default)).set j (l.getD (j + 1) default)
def insJ (l : List St) : Nat → List St
 | 0 => l
 | j + 1 => if (l.getD (j + 1) default).x < (l.getD j default).x then insJ (swapL l j) j else l
def sortJ : Nat → Nat → List St → List St
 | 0, _, l => l
 | m + 1, i, l => sortJ m (i + 1) (insJ l i)
def rawS (W : LaidR) (fin : Int) : List St := stopsF W (cutB fin) W.l 0
def stopsI (W : LaidR) (fin : Int) : List St := sortJ ((rawS W fin).length - 1) 1 (rawS W fin)
def gapI (a b : Int) : Int := max (a - b) (b - a)
def bestF (x : Int) : List St → St → St
 | [], b => b
 | s :: t, b => bestF x t (if gapI s.x x < gapI b.x x then s else b)
def hitI (W : LaidR) (fin x : Int) : St := bestF (min (max x 0) W.wide) (stopsI W fin) ((stopsI W fin).getD 0 default)
theorem swapL_len (l : List St) (j : Nat) : (swapL l j).length = l.length := by unfold swapL; rw [List.length_set, List.length_set]
theorem insJ_len : ∀ (j : Nat) (l : List St), (insJ l j).length = l.length
 | 0, _ => rfl
 | j + 1, l => by
   rw [insJ]
   split
   ·rw [insJ_len j, swapL_len]
   ·rfl
theorem sortJ_len : ∀ (m i : Nat) (l : List St), (sortJ m i l).length = l.length
 | 0, _, _ => rfl
 | m + 1, i, l => by rw [sortJ, sortJ_len m, insJ_len]
theorem stopAt_len (W : LaidR) (cut : Bool) (i p : Nat) : (stopAt W cut i p).length ≤ 2 := by
 unfold stopAt
 rw [List.length_append]
 split <;> split <;> simp
end
end Go.Proofs.YtlbclfmbejjneaaGreatDoor
