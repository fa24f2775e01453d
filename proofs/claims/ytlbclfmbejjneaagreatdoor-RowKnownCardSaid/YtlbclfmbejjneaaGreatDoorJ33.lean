/- Part 33 of the proof (merged by a program out of the texts JoinB, JoinC, RqP): lemmas of no further condition than each states. -/
import Derived.Test.YtlbclfmbejjneaaGreatDoorJ32
namespace Go.Proofs.YtlbclfmbejjneaaGreatDoor
set_option linter.unusedVariables false
set_option linter.unusedSimpArgs false
section
open Go.RowKit
def formStep (cs fs : List Int) (last : Int) (i : Nat) : List Int × Int :=
 if joinI (ith cs i) = 4 then (fs, last)
 else if joinI (ith cs i) = 1 ∨ joinI (ith cs i) = 2 ∨ joinI (ith cs i) = 3 then
  if last < 0 then (fs, i)
  else if joinI (ith cs last.toNat) ≠ 2 ∧ joinI (ith cs last.toNat) ≠ 3 then (fs, i)
  else if joinI (ith cs last.toNat) = 2 then
   ((if joinI (ith cs i) ≠ 3 then fs.set i 3 else fs).set last.toNat (if ith (if joinI (ith cs i) ≠ 3 then fs.set i 3 else fs) last.toNat = 3 then 2 else 1), i)
  else (if joinI (ith cs i) ≠ 3 then fs.set i 3 else fs, i)
 else (fs, i)
def formsF (cs : List Int) : Nat → List Int × Int
 | 0 => (List.replicate cs.length 0, -1)
 | n + 1 => formStep cs (formsF cs n).1 (formsF cs n).2 n
def formsI (cs : List Int) : List Int := (formsF cs cs.length).1
theorem formStep_len (cs fs : List Int) (last : Int) (i : Nat) : (formStep cs fs last i).1.length = fs.length := by
 unfold formStep
 repeat' split
 all_goals simp
theorem formStep_last (cs fs : List Int) (last : Int) (i : Nat) : (formStep cs fs last i).2 = last ∨ (formStep cs fs last i).2 = i := by
 unfold formStep
 repeat' split
 all_goals simp
theorem formsF_len (cs : List Int) : ∀ n, (formsF cs n).1.length = cs.length
 | 0 => by simp [formsF]
 | n + 1 => by rw [formsF, formStep_len, formsF_len cs n]
theorem formsF_last (cs : List Int) : ∀ n : Nat, -1 ≤ (formsF cs n).2 ∧ (formsF cs n).2 < (n : Int)
 | 0 => by simp [formsF]
 | n + 1 => by
   have h := formsF_last cs n
   rw [formsF]
   rcases formStep_last cs (formsF cs n).1 (formsF cs n).2 n with e | e <;> (rw [e]; omega)
theorem formsI_len (cs : List Int) : (formsI cs).length = cs.length := formsF_len cs _
def FormsPost (cs : List Int) (n : Nat) (w : World) (e : Ending) (w' : World) : Prop :=
 e = .returned (.slice (some ⟨w.heap.size, 0, none⟩) n n) ∧ OutAt .i8 22 w' w.heap.size (some ⟨w.heap.size, 0, none⟩) n (formsI cs) ∧ Below w.heap.size w w'
set_option maxRecDepth 100000 in
set_option maxHeartbeats 2000000 in
theorem Forms_any (a : Option Addr) (cs : List Int) (n c : Nat) (w : World) (hl : cs.length = n) (hd : Rd .i32 w a cs) (hn : n ≤ 2097152) :
 Calls Tryz.prog 106 #[.slice a n c] w (FormsPost cs n w) := by
 obtain ⟨i3, hi3, hz3, ha3, hb3⟩ := info_parts (Tryz.info_i8)
 have HL := Lib.hid hl
 have hOI : formsI cs = (formsF cs n).1 := by unfold formsI; rw [hl]
 have HOI := Lib.hid hOI
 have hmk := run_make_row (P := Tryz.prog) 142 22 i3 (.int .i8 0) Tryz.underlying142 hi3 hz3 ha3 rfl .i64 .i64 n (by rw [hb3]; omega) (by omega)
 clear hl hOI
 go_enter Tryz.func106, Tryz.ntmps106
 go_wp2_with (fail)
 refine wp_scope_straight ?_
 go_wp2_with (fail)
 clear hmk
 refine wp_label ?_
 go_wp2_with (fail)
 have hO0 : OutAt .i8 22 (w.alloc (.cells (madeCells #[.int .i8 0] n) 22)) w.heap.size (some ⟨w.heap.size, 0, none⟩) n (formsF cs 0).1 :=
  out_of_row ((World.rowIs_made w (.int .i8 0) n 22).congr fun i hi => by
   rw [formsF]
   unfold ith
   simp [HL.out, hi]) ((formsF_len cs 0).trans HL.out) (Nat.le_refl _) (by unfold maxLen; omega)
 have hb0 := (Below.refl w.heap.size w).alloc (Nat.le_refl _) (.cells (madeCells #[.int .i8 0] n) 22)
 go_loopw [4, 5, 6, 7, 8, 14] (fun u4 _ _ _ _ u wx => ∃ i : Nat, i ≤ n ∧ u = .int .i64 i ∧ u4 = .int .i64 (formsF cs i).2 ∧ OutAt .i8 22 wx w.heap.size (some ⟨w.heap.size, 0, none⟩) n (formsF cs i).1 ∧ Below w.heap.size w wx) (fun _ _ _ _ _ u _ => n - (intOf u).toNat)
 case atStart => exact ⟨0, by omega, rfl, rfl, hO0, hb0⟩
 case round =>
  obtain ⟨i, hi, rfl, rfl, hO, hbel⟩ := hrel
  clear hO0 hb0
  by_cases hlt : i < n
  ·obtain ⟨G, o, rfl, hG, hcl⟩ := hd.at hbel i (by rw [HL.out]; exact hlt)
   obtain ⟨fs, hfs⟩ : ∃ fs, (formsF cs i).1 = fs := ⟨_, rfl⟩
   obtain ⟨L, hL⟩ : ∃ L, (formsF cs i).2 = L := ⟨_, rfl⟩
   have hnx : formsF cs (i + 1) = formStep cs fs L i := by rw [formsF, hfs, hL]
   have hfl : fs.length = n := by rw [← hfs, formsF_len, HL.out]
   have hlb := formsF_last cs i
   rw [hL] at hlb ⊢
   rw [hfs] at hO
   obtain ⟨y, hy⟩ : ∃ y, ith cs i = y := ⟨_, rfl⟩
   rw [hy] at hcl
   obtain ⟨k, hk⟩ : ∃ k, joinI y = k := ⟨_, rfl⟩
   unfold formStep at hnx
   rw [hy, hk] at hnx
   have HJ : Hid (∀ W, Calls Tryz.prog 133 #[.int .i32 y] W fun e w' => e = .returned (.int .i8 k) ∧ Below W.heap.size W w') := Lib.hid fun W => hk ▸ Join_any y W
   have HNX := Lib.hid hnx
   have HO := Lib.hid hO
   have HBE := Lib.hid hbel
   have HFL := Lib.hid hfl
   have gi0 : (0 : Int) ≤ (i : Int) := by omega
   have gi1 : (i : Int) < (n : Int) := by omega
   clear hfs hL hnx hO hbel hfl hy hk
   go_upto_region 7 with (go_at_call 133; refine (HJ.out _).mono ?_; rintro e w1 ⟨rfl, hb1⟩)
   have hO1 := HO.out.keep hb1
   have hB1 := HBE.out.trans (hb1.mono HBE.out.size)
   have HO1 := Lib.hid hO1
   have HB1 := Lib.hid hB1
   clear hcl hb1 hO1 hB1 HO HBE HJ
   by_cases hk4 : k = 4
   ·subst hk4
    have hN : formsF cs (i + 1) = (fs, L) := by rw [HNX.out, if_pos rfl]
    have HN := Lib.hid hN
    clear hN
    go_wp2_with (fail)
    go_roundw
    case rel => exact ⟨i + 1, by omega, by go_num, by rw [HN.out], by rw [HN.out]; exact HO1.out, HB1.out⟩
    case measure => simp [intOf]; omega
   by_cases hk1 : k = 1
   ·subst hk1
    clear hk4
    by_cases hL0 : L < 0
    ·have HL0 := Lib.hid hL0
     have hN : formsF cs (i + 1) = (fs, (i : Int)) := by rw [HNX.out]; simp [HL0.out]
     have HN := Lib.hid hN
     clear hN
     go_wp2_with (fail)
     go_roundw
     case rel => exact ⟨i + 1, by omega, by go_num, by rw [HN.out], by rw [HN.out]; exact HO1.out, HB1.out⟩
     case measure => simp [intOf]; omega
    obtain ⟨l, rfl⟩ : ∃ l : Nat, L = l := ⟨L.toNat, by omega⟩
    have hli : l < i := by omega
    have gl0 : (0 : Int) ≤ (l : Int) := by omega
    have gl1 : (l : Int) < (n : Int) := by omega
    obtain ⟨G2, o2, e2, hG2, hcl2⟩ := hd.at HB1.out l (by rw [HL.out]; omega)
    cases e2
    obtain ⟨z, hz⟩ : ∃ z, ith cs l = z := ⟨_, rfl⟩
    rw [hz] at hcl2
    obtain ⟨b, hb⟩ : ∃ b, joinI z = b := ⟨_, rfl⟩
    have hnx := HNX.out
    rw [Int.toNat_natCast, hz, hb] at hnx
    have HJ2 : Hid (∀ W, Calls Tryz.prog 133 #[.int .i32 z] W fun e w' => e = .returned (.int .i8 b) ∧ Below W.heap.size W w') := Lib.hid fun W => hb ▸ Join_any z W
    clear HNX hz hb
    have HNX := Lib.hid hnx
    clear hnx
    go_upto_region 14 with (go_at_call 133; refine (HJ2.out _).mono ?_; rintro e w2 ⟨rfl, hb2⟩)
    have hO2 := HO1.out.keep hb2
    have hB2 := HB1.out.trans (hb2.mono HB1.out.size)
    have HO2 := Lib.hid hO2
    have HB2 := Lib.hid hB2
    clear hcl2 hb2 hO2 hB2 HO1 HB1 HJ2
    by_cases hb2 : b = 2
    ·subst hb2
     obtain ⟨_, hGe, _, _, hXo, hFo, _, _⟩ := HO2.out.at i (by rw [HFL.out]; omega)
     cases hGe
     generalize ith fs i = vi at hXo
     have hS := HO2.out.set i 3
     have hSB := HB2.out.setCell (p := ⟨w.heap.size, i, none⟩) (Nat.le_refl _) (.int .i8 3)
     go_upto_region 17 with (fail)
     clear hXo hFo
     generalize w2.setCell ⟨w.heap.size, i, none⟩ (.int .i8 3) = w3 at hS hSB ⊢
     have HO3 := Lib.hid hS
     have HB3 := Lib.hid hSB
     clear hS hSB
     obtain ⟨_, hGe, _, _, hXo, hFo, _, _⟩ := HO3.out.at l (by first | (rw [HFL.out]; omega) | (rw [List.length_set, HFL.out]; omega))
     cases hGe
     obtain ⟨vo, hvo⟩ : ∃ vo, ith (fs.set i 3) l = vo := ⟨_, rfl⟩
     rw [hvo] at hXo
     have HVO := Lib.hid hvo
     clear hvo
     by_cases hv3 : vo = 3
     ·subst hv3
      have hS := OutAt.set HO3.out l 2
      have HS := Lib.hid hS
      have HSB := Lib.hid (HB3.out.setCell (p := ⟨w.heap.size, l, none⟩) (Nat.le_refl _) (.int .i8 2))
      clear hS
      have hN : formsF cs (i + 1) = ((fs.set i 3).set l 2, (i : Int)) := by rw [HNX.out]; simp [show ¬ ((l : Int) < 0) from by omega, HVO.out]
      have HN := Lib.hid hN
      clear hN
      go_wp2_with (fail)
      go_roundw
      case rel => exact ⟨i + 1, by omega, by go_num, by rw [HN.out], by rw [HN.out]; exact HS.out, HSB.out⟩
      case measure => simp [intOf]; omega
     ·have ev3 : (vo == 3) = false := by rw [beq_eq_false_iff_ne]; exact hv3
      have hS := OutAt.set HO3.out l 1
      have HS := Lib.hid hS
      have HSB := Lib.hid (HB3.out.setCell (p := ⟨w.heap.size, l, none⟩) (Nat.le_refl _) (.int .i8 1))
      clear hS
      have HV3 := Lib.hid hv3
      clear hv3
      have hN : formsF cs (i + 1) = ((fs.set i 3).set l 1, (i : Int)) := by rw [HNX.out]; simp [show ¬ ((l : Int) < 0) from by omega, HVO.out, HV3.out]
      have HN := Lib.hid hN
      clear hN
      go_wp2_with (fail)
      go_roundw
      case rel => exact ⟨i + 1, by omega, by go_num, by rw [HN.out], by rw [HN.out]; exact HS.out, HSB.out⟩
      case measure => simp [intOf]; omega
    by_cases hb3 : b = 3
    ·subst hb3
     clear hb2
     obtain ⟨_, hGe, _, _, hXo, hFo, _, _⟩ := HO2.out.at i (by rw [HFL.out]; omega)
     cases hGe
     generalize ith fs i = vi at hXo
     have hS := HO2.out.set i 3
     have hSB := HB2.out.setCell (p := ⟨w.heap.size, i, none⟩) (Nat.le_refl _) (.int .i8 3)
     go_upto_region 17 with (fail)
     clear hXo hFo
     generalize w2.setCell ⟨w.heap.size, i, none⟩ (.int .i8 3) = w3 at hS hSB ⊢
     have HO3 := Lib.hid hS
     have HB3 := Lib.hid hSB
     clear hS hSB
     have hN : formsF cs (i + 1) = (fs.set i 3, (i : Int)) := by rw [HNX.out]; simp [show ¬ ((l : Int) < 0) from by omega]
     have HN := Lib.hid hN
     clear hN
     go_wp2_with (fail)
     go_roundw
     case rel => exact ⟨i + 1, by omega, by go_num, by rw [HN.out], by rw [HN.out]; exact HO3.out, HB3.out⟩
     case measure => simp [intOf]; omega
    have eb2 : (b == 2) = false := by rw [beq_eq_false_iff_ne]; exact hb2
    have eb3 : (b == 3) = false := by rw [beq_eq_false_iff_ne]; exact hb3
    have nb2 : (b != 2) = true := by simp [hb2]
    have nb3 : (b != 3) = true := by simp [hb3]
    have HC2 := Lib.hid hb2
    have HC3 := Lib.hid hb3
    clear hb2 hb3
    have hN : formsF cs (i + 1) = (fs, (i : Int)) := by rw [HNX.out]; simp [HC2.out, HC3.out, show ¬ ((l : Int) < 0) from by omega]
    have HN := Lib.hid hN
    clear hN
    go_wp2_with (fail)
    go_roundw
    case rel => exact ⟨i + 1, by omega, by go_num, by rw [HN.out], by rw [HN.out]; exact HO2.out, HB2.out⟩
    case measure => simp [intOf]; omega
   by_cases hk2 : k = 2
   ·subst hk2
    clear hk4 hk1
    by_cases hL0 : L < 0
    ·have HL0 := Lib.hid hL0
     have hN : formsF cs (i + 1) = (fs, (i : Int)) := by rw [HNX.out]; simp [HL0.out]
     have HN := Lib.hid hN
     clear hN
     go_wp2_with (fail)
     go_roundw
     case rel => exact ⟨i + 1, by omega, by go_num, by rw [HN.out], by rw [HN.out]; exact HO1.out, HB1.out⟩
     case measure => simp [intOf]; omega
    obtain ⟨l, rfl⟩ : ∃ l : Nat, L = l := ⟨L.toNat, by omega⟩
    have hli : l < i := by omega
    have gl0 : (0 : Int) ≤ (l : Int) := by omega
    have gl1 : (l : Int) < (n : Int) := by omega
    obtain ⟨G2, o2, e2, hG2, hcl2⟩ := hd.at HB1.out l (by rw [HL.out]; omega)
    cases e2
    obtain ⟨z, hz⟩ : ∃ z, ith cs l = z := ⟨_, rfl⟩
    rw [hz] at hcl2
    obtain ⟨b, hb⟩ : ∃ b, joinI z = b := ⟨_, rfl⟩
    have hnx := HNX.out
    rw [Int.toNat_natCast, hz, hb] at hnx
    have HJ2 : Hid (∀ W, Calls Tryz.prog 133 #[.int .i32 z] W fun e w' => e = .returned (.int .i8 b) ∧ Below W.heap.size W w') := Lib.hid fun W => hb ▸ Join_any z W
    clear HNX hz hb
    have HNX := Lib.hid hnx
    clear hnx
    go_upto_region 14 with (go_at_call 133; refine (HJ2.out _).mono ?_; rintro e w2 ⟨rfl, hb2⟩)
    have hO2 := HO1.out.keep hb2
    have hB2 := HB1.out.trans (hb2.mono HB1.out.size)
    have HO2 := Lib.hid hO2
    have HB2 := Lib.hid hB2
    clear hcl2 hb2 hO2 hB2 HO1 HB1 HJ2
    by_cases hb2 : b = 2
    ·subst hb2
     obtain ⟨_, hGe, _, _, hXo, hFo, _, _⟩ := HO2.out.at i (by rw [HFL.out]; omega)
     cases hGe
     generalize ith fs i = vi at hXo
     have hS := HO2.out.set i 3
     have hSB := HB2.out.setCell (p := ⟨w.heap.size, i, none⟩) (Nat.le_refl _) (.int .i8 3)
     go_upto_region 17 with (fail)
     clear hXo hFo
     generalize w2.setCell ⟨w.heap.size, i, none⟩ (.int .i8 3) = w3 at hS hSB ⊢
     have HO3 := Lib.hid hS
     have HB3 := Lib.hid hSB
     clear hS hSB
     obtain ⟨_, hGe, _, _, hXo, hFo, _, _⟩ := HO3.out.at l (by first | (rw [HFL.out]; omega) | (rw [List.length_set, HFL.out]; omega))
     cases hGe
     obtain ⟨vo, hvo⟩ : ∃ vo, ith (fs.set i 3) l = vo := ⟨_, rfl⟩
     rw [hvo] at hXo
     have HVO := Lib.hid hvo
     clear hvo
     by_cases hv3 : vo = 3
     ·subst hv3
      have hS := OutAt.set HO3.out l 2
      have HS := Lib.hid hS
      have HSB := Lib.hid (HB3.out.setCell (p := ⟨w.heap.size, l, none⟩) (Nat.le_refl _) (.int .i8 2))
      clear hS
      have hN : formsF cs (i + 1) = ((fs.set i 3).set l 2, (i : Int)) := by rw [HNX.out]; simp [show ¬ ((l : Int) < 0) from by omega, HVO.out]
      have HN := Lib.hid hN
      clear hN
      go_wp2_with (fail)
      go_roundw
      case rel => exact ⟨i + 1, by omega, by go_num, by rw [HN.out], by rw [HN.out]; exact HS.out, HSB.out⟩
      case measure => simp [intOf]; omega
     ·have ev3 : (vo == 3) = false := by rw [beq_eq_false_iff_ne]; exact hv3
      have hS := OutAt.set HO3.out l 1
      have HS := Lib.hid hS
      have HSB := Lib.hid (HB3.out.setCell (p := ⟨w.heap.size, l, none⟩) (Nat.le_refl _) (.int .i8 1))
      clear hS
      have HV3 := Lib.hid hv3
      clear hv3
      have hN : formsF cs (i + 1) = ((fs.set i 3).set l 1, (i : Int)) := by rw [HNX.out]; simp [show ¬ ((l : Int) < 0) from by omega, HVO.out, HV3.out]
      have HN := Lib.hid hN
      clear hN
      go_wp2_with (fail)
      go_roundw
      case rel => exact ⟨i + 1, by omega, by go_num, by rw [HN.out], by rw [HN.out]; exact HS.out, HSB.out⟩
      case measure => simp [intOf]; omega
    by_cases hb3 : b = 3
    ·subst hb3
     clear hb2
     obtain ⟨_, hGe, _, _, hXo, hFo, _, _⟩ := HO2.out.at i (by rw [HFL.out]; omega)
     cases hGe
     generalize ith fs i = vi at hXo
     have hS := HO2.out.set i 3
     have hSB := HB2.out.setCell (p := ⟨w.heap.size, i, none⟩) (Nat.le_refl _) (.int .i8 3)
     go_upto_region 17 with (fail)
     clear hXo hFo
     generalize w2.setCell ⟨w.heap.size, i, none⟩ (.int .i8 3) = w3 at hS hSB ⊢
     have HO3 := Lib.hid hS
     have HB3 := Lib.hid hSB
     clear hS hSB
     have hN : formsF cs (i + 1) = (fs.set i 3, (i : Int)) := by rw [HNX.out]; simp [show ¬ ((l : Int) < 0) from by omega]
     have HN := Lib.hid hN
     clear hN
     go_wp2_with (fail)
     go_roundw
     case rel => exact ⟨i + 1, by omega, by go_num, by rw [HN.out], by rw [HN.out]; exact HO3.out, HB3.out⟩
     case measure => simp [intOf]; omega
    have eb2 : (b == 2) = false := by rw [beq_eq_false_iff_ne]; exact hb2
    have eb3 : (b == 3) = false := by rw [beq_eq_false_iff_ne]; exact hb3
    have nb2 : (b != 2) = true := by simp [hb2]
    have nb3 : (b != 3) = true := by simp [hb3]
    have HC2 := Lib.hid hb2
    have HC3 := Lib.hid hb3
    clear hb2 hb3
    have hN : formsF cs (i + 1) = (fs, (i : Int)) := by rw [HNX.out]; simp [HC2.out, HC3.out, show ¬ ((l : Int) < 0) from by omega]
    have HN := Lib.hid hN
    clear hN
    go_wp2_with (fail)
    go_roundw
    case rel => exact ⟨i + 1, by omega, by go_num, by rw [HN.out], by rw [HN.out]; exact HO2.out, HB2.out⟩
    case measure => simp [intOf]; omega
   by_cases hk3 : k = 3
   ·subst hk3
    clear hk4 hk1 hk2
    by_cases hL0 : L < 0
    ·have HL0 := Lib.hid hL0
     have hN : formsF cs (i + 1) = (fs, (i : Int)) := by rw [HNX.out]; simp [HL0.out]
     have HN := Lib.hid hN
     clear hN
     go_wp2_with (fail)
     go_roundw
     case rel => exact ⟨i + 1, by omega, by go_num, by rw [HN.out], by rw [HN.out]; exact HO1.out, HB1.out⟩
     case measure => simp [intOf]; omega
    obtain ⟨l, rfl⟩ : ∃ l : Nat, L = l := ⟨L.toNat, by omega⟩
    have hli : l < i := by omega
    have gl0 : (0 : Int) ≤ (l : Int) := by omega
    have gl1 : (l : Int) < (n : Int) := by omega
    obtain ⟨G2, o2, e2, hG2, hcl2⟩ := hd.at HB1.out l (by rw [HL.out]; omega)
    cases e2
    obtain ⟨z, hz⟩ : ∃ z, ith cs l = z := ⟨_, rfl⟩
    rw [hz] at hcl2
    obtain ⟨b, hb⟩ : ∃ b, joinI z = b := ⟨_, rfl⟩
    have hnx := HNX.out
    rw [Int.toNat_natCast, hz, hb] at hnx
    have HJ2 : Hid (∀ W, Calls Tryz.prog 133 #[.int .i32 z] W fun e w' => e = .returned (.int .i8 b) ∧ Below W.heap.size W w') := Lib.hid fun W => hb ▸ Join_any z W
    clear HNX hz hb
    have HNX := Lib.hid hnx
    clear hnx
    go_upto_region 14 with (go_at_call 133; refine (HJ2.out _).mono ?_; rintro e w2 ⟨rfl, hb2⟩)
    have hO2 := HO1.out.keep hb2
    have hB2 := HB1.out.trans (hb2.mono HB1.out.size)
    have HO2 := Lib.hid hO2
    have HB2 := Lib.hid hB2
    clear hcl2 hb2 hO2 hB2 HO1 HB1 HJ2
    by_cases hb2 : b = 2
    ·subst hb2
     go_upto_region 17 with (fail)
     obtain ⟨_, hGe, _, _, hXo, hFo, _, _⟩ := HO2.out.at l (by first | (rw [HFL.out]; omega) | (rw [List.length_set, HFL.out]; omega))
     cases hGe
     obtain ⟨vo, hvo⟩ : ∃ vo, ith (fs) l = vo := ⟨_, rfl⟩
     rw [hvo] at hXo
     have HVO := Lib.hid hvo
     clear hvo
     by_cases hv3 : vo = 3
     ·subst hv3
      have hS := OutAt.set HO2.out l 2
      have HS := Lib.hid hS
      have HSB := Lib.hid (HB2.out.setCell (p := ⟨w.heap.size, l, none⟩) (Nat.le_refl _) (.int .i8 2))
      clear hS
      have hN : formsF cs (i + 1) = ((fs).set l 2, (i : Int)) := by rw [HNX.out]; simp [show ¬ ((l : Int) < 0) from by omega, HVO.out]
      have HN := Lib.hid hN
      clear hN
      go_wp2_with (fail)
      go_roundw
      case rel => exact ⟨i + 1, by omega, by go_num, by rw [HN.out], by rw [HN.out]; exact HS.out, HSB.out⟩
      case measure => simp [intOf]; omega
     ·have ev3 : (vo == 3) = false := by rw [beq_eq_false_iff_ne]; exact hv3
      have hS := OutAt.set HO2.out l 1
      have HS := Lib.hid hS
      have HSB := Lib.hid (HB2.out.setCell (p := ⟨w.heap.size, l, none⟩) (Nat.le_refl _) (.int .i8 1))
      clear hS
      have HV3 := Lib.hid hv3
      clear hv3
      have hN : formsF cs (i + 1) = ((fs).set l 1, (i : Int)) := by rw [HNX.out]; simp [show ¬ ((l : Int) < 0) from by omega, HVO.out, HV3.out]
      have HN := Lib.hid hN
      clear hN
      go_wp2_with (fail)
      go_roundw
      case rel => exact ⟨i + 1, by omega, by go_num, by rw [HN.out], by rw [HN.out]; exact HS.out, HSB.out⟩
      case measure => simp [intOf]; omega
    by_cases hb3 : b = 3
    ·subst hb3
     clear hb2
     go_upto_region 17 with (fail)
     have hN : formsF cs (i + 1) = (fs, (i : Int)) := by rw [HNX.out]; simp [show ¬ ((l : Int) < 0) from by omega]
     have HN := Lib.hid hN
     clear hN
     go_wp2_with (fail)
     go_roundw
     case rel => exact ⟨i + 1, by omega, by go_num, by rw [HN.out], by rw [HN.out]; exact HO2.out, HB2.out⟩
     case measure => simp [intOf]; omega
    have eb2 : (b == 2) = false := by rw [beq_eq_false_iff_ne]; exact hb2
    have eb3 : (b == 3) = false := by rw [beq_eq_false_iff_ne]; exact hb3
    have nb2 : (b != 2) = true := by simp [hb2]
    have nb3 : (b != 3) = true := by simp [hb3]
    have HC2 := Lib.hid hb2
    have HC3 := Lib.hid hb3
    clear hb2 hb3
    have hN : formsF cs (i + 1) = (fs, (i : Int)) := by rw [HNX.out]; simp [HC2.out, HC3.out, show ¬ ((l : Int) < 0) from by omega]
    have HN := Lib.hid hN
    clear hN
    go_wp2_with (fail)
    go_roundw
    case rel => exact ⟨i + 1, by omega, by go_num, by rw [HN.out], by rw [HN.out]; exact HO2.out, HB2.out⟩
    case measure => simp [intOf]; omega
   have e4 : (k == 4) = false := by rw [beq_eq_false_iff_ne]; exact hk4
   have e1 : (k == 1) = false := by rw [beq_eq_false_iff_ne]; exact hk1
   have e2 : (k == 2) = false := by rw [beq_eq_false_iff_ne]; exact hk2
   have e3 : (k == 3) = false := by rw [beq_eq_false_iff_ne]; exact hk3
   have H1 := Lib.hid hk1
   have H2 := Lib.hid hk2
   have H3 := Lib.hid hk3
   have H4 := Lib.hid hk4
   clear hk1 hk2 hk3 hk4
   have hN : formsF cs (i + 1) = (fs, (i : Int)) := by rw [HNX.out]; simp [H1.out, H2.out, H3.out, H4.out]
   have HN := Lib.hid hN
   clear hN
   go_wp2_with (fail)
   go_roundw
   case rel => exact ⟨i + 1, by omega, by go_num, by rw [HN.out], by rw [HN.out]; exact HO1.out, HB1.out⟩
   case measure => simp [intOf]; omega
  ·have hie : n = i := by omega
   subst hie
   rw [← HOI.out] at hO
   have HO1 := Lib.hid hO
   have HB1 := Lib.hid hbel
   clear hO hbel hi hlt
   go_wp2_with (fail)
   unfold Exit.noGoto
   go_ret
   exact ⟨rfl, HO1.out, HB1.out⟩
end
section
open Go.RowKit
def shapedI (cs : List Int) : List Int := (List.range cs.length).map fun i => shapeI (ith cs i) (ith (formsI cs) i)
theorem shapedI_len (cs : List Int) : (shapedI cs).length = cs.length := by unfold shapedI; simp
def shN (cs : List Int) (n i : Nat) : List Int := (List.range n).map fun j => if j < i then shapeI (ith cs j) (ith (formsI cs) j) else 0
theorem shN_len (cs : List Int) (n i : Nat) : (shN cs n i).length = n := by unfold shN; simp
theorem shN_ith (cs : List Int) (n i j : Nat) (h : j < n) : ith (shN cs n i) j = if j < i then shapeI (ith cs j) (ith (formsI cs) j) else 0 := by
 unfold shN ith
 rw [List.getD_eq_getElem?_getD, List.getElem?_map, List.getElem?_range h]
 rfl
theorem shN_next (cs : List Int) (n i : Nat) : (shN cs n i).set i (shapeI (ith cs i) (ith (formsI cs) i)) = shN cs n (i + 1) := by
 apply List.ext_getElem?
 intro j
 unfold shN
 rw [List.getElem?_set, List.getElem?_map, List.getElem?_map, List.length_map, List.length_range]
 by_cases hj : j < n
 ·rw [List.getElem?_range hj]
  by_cases e : i = j
  ·subst e
   simp [hj]
  ·rw [if_neg e]
   simp only [Option.map_some]
   congr 1
   by_cases h1 : j < i
   ·rw [if_pos h1, if_pos (by omega)]
   ·rw [if_neg h1, if_neg (by omega)]
 ·rw [List.getElem?_eq_none (by simp; omega)]
  simp
  intro e
  omega
theorem shN_all (cs : List Int) : shN cs cs.length cs.length = shapedI cs := by
 unfold shN shapedI
 apply List.map_congr_left
 intro j hj
 rw [if_pos (List.mem_range.1 hj)]
def ShapedPost (cs : List Int) (n : Nat) (w : World) (e : Ending) (w' : World) : Prop :=
 e = .returned (.slice (some ⟨w.heap.size, 0, none⟩) n n) ∧ OutAt .i32 21 w' w.heap.size (some ⟨w.heap.size, 0, none⟩) n (shapedI cs) ∧ Below w.heap.size w w'
set_option maxRecDepth 100000 in
set_option maxHeartbeats 2000000 in
theorem Shaped_any (a : Option Addr) (cs : List Int) (n c : Nat) (w : World) (hl : cs.length = n) (hd : Rd .i32 w a cs) (hn : n ≤ 2097152) :
 Calls Tryz.prog 79 #[.slice a n c] w (ShapedPost cs n w) := by
 obtain ⟨i3, hi3, hz3, ha3, hb3⟩ := info_parts (Tryz.info_rune)
 have HL := Lib.hid hl
 have hmk := run_make_row (P := Tryz.prog) 82 21 i3 (.int .i32 0) Tryz.underlying82 hi3 hz3 ha3 rfl .i64 .i64 n (by rw [hb3]; omega) (by omega)
 clear hl
 go_enter Tryz.func79, Tryz.ntmps79
 go_upto_region 2 with (fail)
 clear hmk
 have hO0 : OutAt .i32 21 (w.alloc (.cells (madeCells #[.int .i32 0] n) 21)) w.heap.size (some ⟨w.heap.size, 0, none⟩) n (shN cs n 0) :=
  out_of_row ((World.rowIs_made w (.int .i32 0) n 21).congr fun i hi => by rw [shN_ith _ _ _ _ hi, if_neg (Nat.not_lt_zero _)]) (shN_len _ _ _) (Nat.le_refl _) (by unfold maxLen; omega)
 have hb0 := (Below.refl w.heap.size w).alloc (Nat.le_refl _) (.cells (madeCells #[.int .i32 0] n) 21)
 have hs0 : w.heap.size < (w.alloc (.cells (madeCells #[.int .i32 0] n) 21)).heap.size := by simp
 generalize w.alloc (.cells (madeCells #[.int .i32 0] n) 21) = w0 at hO0 hb0 hs0 ⊢
 have HFO := Lib.hid (Forms_any a cs n c w0 HL.out (hd.below hb0) hn)
 have HO0 := Lib.hid hO0
 have HB0 := Lib.hid hb0
 clear hO0 hb0
 go_upto_block 0 with (go_at_call 106; refine HFO.out.mono ?_; rintro e w1 ⟨rfl, ho1, hb1⟩)
 have HO1 := Lib.hid (HO0.out.keep hb1)
 have HB1 := Lib.hid (HB0.out.trans (hb1.mono HB0.out.size))
 have HF1 := Lib.hid ho1
 clear ho1 hb1 HFO HO0 HB0
 obtain ⟨B0, hB0⟩ : ∃ B0, w0.heap.size = B0 := ⟨_, rfl⟩
 rw [hB0] at HF1 hs0 ⊢
 clear hB0
 go_wp2_with (fail)
 go_loopw [4, 5, 12] (fun _ _ u wx => ∃ i : Nat, i ≤ n ∧ u = .int .i64 i ∧ OutAt .i32 21 wx w.heap.size (some ⟨w.heap.size, 0, none⟩) n (shN cs n i) ∧ OutAt .i8 22 wx B0 (some ⟨B0, 0, none⟩) n (formsI cs) ∧ Below w.heap.size w wx) (fun _ _ u _ => n - (intOf u).toNat)
 case atStart => exact ⟨0, by omega, rfl, HO1.out, HF1.out, HB1.out⟩
 case round =>
  obtain ⟨i, hi, rfl, hO, hF, hbel⟩ := hrel
  clear HO1 HF1 HB1
  by_cases hlt : i < n
  ·obtain ⟨G, o, rfl, hG, hcl⟩ := hd.at hbel i (by rw [HL.out]; exact hlt)
   obtain ⟨_, hGe, _, _, hXo, hFo, _, _⟩ := hO.at i (by rw [shN_len]; exact hlt)
   cases hGe
   obtain ⟨_, hGe, _, hGl, hXf, _, _, _⟩ := hF.at i (by rw [formsI_len, HL.out]; exact hlt)
   cases hGe
   have hnx := shN_next cs n i
   obtain ⟨y, hy⟩ : ∃ y, ith cs i = y := ⟨_, rfl⟩
   obtain ⟨f, hf⟩ : ∃ f, ith (formsI cs) i = f := ⟨_, rfl⟩
   rw [hy] at hcl hnx
   rw [hf] at hXf hnx
   obtain ⟨x, hx⟩ : ∃ x, shapeI y f = x := ⟨_, rfl⟩
   rw [hx] at hnx
   have HSH : Hid (∀ W, Calls Tryz.prog 107 #[.int .i32 y, .int .i8 f] W fun e w' => e = .returned (.int .i32 x) ∧ Below W.heap.size W w') := Lib.hid fun W => hx ▸ Shape_any y f W
   have HNX := Lib.hid hnx
   have HO := Lib.hid hO
   have HF := Lib.hid hF
   have HBE := Lib.hid hbel
   generalize ith (shN cs n i) i = vo at hXo
   have gi0 : (0 : Int) ≤ (i : Int) := by omega
   have gi1 : (i : Int) < (n : Int) := by omega
   have hzl : w.heap.size < wr.heap.size := HO.out.lt.2
   clear hO hF hbel hy hf hx hnx
   go_wp2_with (go_at_call 107; refine (HSH.out _).mono ?_; rintro e w2 ⟨rfl, hw2⟩; have hx2 := (hw2.cell (p := ⟨w.heap.size, i, none⟩) hzl).trans hXo; have hf2 := (hw2.frozen (p := ⟨w.heap.size, i, none⟩) hzl).trans hFo; have HW2 := Lib.hid hw2; clear hw2)
   have hO3 := (HO.out.keep HW2.out).set i x
   rw [HNX.out] at hO3
   have hF3 : OutAt .i8 22 (w2.setCell ⟨w.heap.size, i, none⟩ (.int .i32 x)) B0 (some ⟨B0, 0, none⟩) n (formsI cs) := row_other (HF.out.keep HW2.out) (fun g hg => by cases hg; show B0 ≠ w.heap.size; omega)
   have hb3 : Below w.heap.size w (w2.setCell ⟨w.heap.size, i, none⟩ (.int .i32 x)) := (HBE.out.trans (HW2.out.mono HBE.out.size)).setCell (p := ⟨w.heap.size, i, none⟩) (Nat.le_refl _) _
   have HO3 := Lib.hid hO3
   have HF3 := Lib.hid hF3
   have HB3 := Lib.hid hb3
   clear hO3 hF3 hb3
   go_roundw
   case rel => exact ⟨i + 1, by omega, by go_num, HO3.out, HF3.out, HB3.out⟩
   case measure => simp [intOf]; omega
  ·have hie : i = n := by omega
   subst hie
   have hall : shN cs i i = shapedI cs := by rw [← HL.out]; exact shN_all cs
   rw [hall] at hO
   have HO := Lib.hid hO
   have HB := Lib.hid hbel
   clear hO hF hbel hall
   go_wp2_with (fail)
   go_ret
   exact ⟨rfl, HO.out, HB.out⟩
end
section
open Go.RowKit Go.Proofs
section
variable {P : Program} {ops : Array Oper} {Q : Exit → Act → World → Prop} {md : Region.Mode} {S : World → Prop}
def setL : List Nat → Array Bool → Array Bool
 | [], l => l
 | k :: ks, l => setL ks (l.setIfInBounds k true)
def headP (md : Region.Mode) (ops : Array Oper) : List Nat → Array Bool → Bool
 | [], _ => true
 | k :: ks, l => (Region.ready md ops l).contains k && Region.free md ops l k && plainAt ops k && headP md ops ks (l.setIfInBounds k true)
def opsAt (ops : Array Oper) (ks : List Nat) : List Oper := ks.filterMap fun k => ops[k]?
theorem head_walkP (hs : Region.noSelect ops = true) (hQ : ∀ c a a' w, Q (.panic c) a w → Q (.panic c) a' w) {Lq : Act → Prop} {fuel : Nat} {w : World} (hS : S w) :
 ∀ (h : List Oper) (ks : List Nat) (l : Array Bool) (a : Act), ks.map (fun k => ops[k]?) = h.map some → headP md ops ks l = true → wpQuiet P ops (CS S) Lq h a →
   (∀ a', Lq a' → wpAnyH P md ops Q S fuel (setL ks l) a' w) → wpAnyH P md ops Q S (h.length + fuel) l a w
 | [], [], l, a, _, _, hw, hn => by rw [List.length_nil, Nat.zero_add]; exact hn a hw
 | [], k :: ks, l, a, he, _, _, _ => by simp at he
 | o :: h, [], l, a, he, _, _, _ => by simp at he
 | o :: h, k :: ks, l, a, he, hB, hw, hn => by
   simp only [List.map_cons, List.cons.injEq] at he
   obtain ⟨h0, he'⟩ := he
   simp only [headP, Bool.and_eq_true] at hB
   obtain ⟨⟨⟨hr, hf⟩, hp⟩, hB'⟩ := hB
   have hpl : plainB o = true := by unfold plainAt at hp; rw [h0] at hp; exact hp
   have hq : ∃ v, YieldsIf P ops S o v a ∧ wpQuiet P ops (CS S) Lq h (a.put o.dst v) := by
    unfold wpQuiet at hw
    split at hw
    ·rename_i hwt
     obtain ⟨v, h1, h2⟩ := hw
     exact ⟨v, .inl ⟨hwt, fun w' hw' => quiet_plain hpl (h1 w' (CS.of hw'))⟩, h2⟩
    ·rename_i hwt
     exact ⟨undef, .inr ⟨by simpa using hwt, rfl⟩, hw⟩
   obtain ⟨v, hy, hw2⟩ := hq
   rw [List.length_cons, show h.length + 1 + fuel = (h.length + fuel) + 1 by omega]
   refine wpAnyH_take h0 hs hf hr (fun c a' w' hh => hQ c _ _ w' hh) hy hS ?_
   exact head_walkP hs hQ hS h ks _ _ he' hB' hw2 hn
theorem headP_ops : ∀ (ks : List Nat) (l : Array Bool), headP md ops ks l = true → ks.map (fun k => ops[k]?) = (opsAt ops ks).map some
 | [], _, _ => rfl
 | k :: ks, l, h => by
   simp only [headP, Bool.and_eq_true] at h
   obtain ⟨⟨_, hp⟩, hB⟩ := h
   cases ho : ops[k]? with
   | none => unfold plainAt at hp; rw [ho] at hp; cases hp
   | some o =>
     have := headP_ops ks _ hB
     unfold opsAt at this ⊢
     rw [List.map_cons, this, List.filterMap_cons, ho]
     rfl
def segHP (P : Program) (ops : Array Oper) (S : World → Prop) (Q : Exit → Act → World → Prop) : List (List Nat × Nat) → List Nat → Act → World → Prop
 | [], z, a, w => wpQuiet P ops (fun w' => ∃ p : WIn S, w' = p.w) (fun a' => Q .normal a' w) (opsAt ops z) a
 | x :: t, z, a, w => wpQuiet P ops (fun w' => ∃ p : WIn S, w' = p.w) (fun a' => ∀ K : Act → World → Prop, (∀ a w, S w → segHP P ops S Q t z a w → K a w) → wpList P ops (Exit.then K Q) (opsAt ops [x.2]) a' w) (opsAt ops x.1) a
def segP (md : Region.Mode) (ops : Array Oper) : List (List Nat × Nat) → List Nat → Array Bool → Bool
 | [], z, l => headP md ops z l && (Region.ready md ops (setL z l)).isEmpty
 | x :: t, z, l => headP md ops x.1 l && decide (Region.ready md ops (setL x.1 l) = [x.2]) && loudAt ops x.2 && segP md ops t z ((setL x.1 l).setIfInBounds x.2 true)
def cntP (ops : Array Oper) : List (List Nat × Nat) → List Nat → Nat
 | [], z => (opsAt ops z).length
 | x :: t, z => (opsAt ops x.1).length + (cntP ops t z + 1)
theorem seg_walkP (hs : Region.noSelect ops = true) (hQ : ∀ c a a' w, Q (.panic c) a w → Q (.panic c) a' w) :
 ∀ (t : List (List Nat × Nat)) (z : List Nat) (li : Array Bool) (a : Act) (w : World), segP md ops t z li = true → S w → segHP P ops S Q t z a w → wpAnyH P md ops Q S (cntP ops t z) li a w
 | [], z, li, a, w, hB, hS, h => by
   simp only [segP, Bool.and_eq_true] at hB
   unfold segHP at h
   have := head_walkP (fuel := 0) hs hQ hS (opsAt ops z) z li a (headP_ops z li hB.1) hB.1 h (fun a' ha => wpAnyH_done (by simpa using hB.2) ha 0)
   simpa [cntP] using this
 | x :: t, z, li, a, w, hB, hS, h => by
   simp only [segP, Bool.and_eq_true, decide_eq_true_eq] at hB
   obtain ⟨⟨⟨hB1, hr⟩, hl⟩, hB2⟩ := hB
   unfold segHP at h
   unfold cntP
   cases hok : ops[x.2]? with
   | none => unfold loudAt at hl; rw [hok] at hl; cases hl
   | some o =>
     have hg : ∀ a' : Act, Region.wanted o (yielded ops a'.tmps) = true := fun a' => by
      unfold loudAt at hl
      rw [hok] at hl
      unfold Region.wanted
      have : o.guard = none := by simpa using hl
      rw [this]
     have hd : opsAt ops [x.2] = [o] := by unfold opsAt; simp [hok]
     refine head_walkP hs hQ hS (opsAt ops x.1) x.1 li a (headP_ops x.1 li hB1) hB1 h (fun a' ha => ?_)
     rw [hd] at ha
     exact loud_walk hok hr hS (hg a') ha (fun a2 w2 hS2 h2 => seg_walkP hs hQ t z _ a2 w2 hB2 hS2 h2)
theorem wp_region_segP {id : Nat} {a : Act} {w : World} {l : List Oper} (S : World → Prop) (t : List (List Nat × Nat)) (z : List Nat) (hm : P.follows .mixedOrders = true)
 (hB : (Region.noSelect l.toArray && segP .any l.toArray t z (Array.replicate l.length false) && decide (cntP l.toArray t z = l.length)) = true)
 (hS : S w.drew) (h : segHP P l.toArray S (NoPanic Q) t z a w.drew) : (Code.region id l.toArray true).wp P Q a w := by
 simp only [Bool.and_eq_true, decide_eq_true_eq] at hB
 refine wp_region_noPanic (wp_region_any hm (wpAny_of_held _ _ _ _ (?_ : wpAnyH P .any l.toArray (NoPanic Q) S _ _ a w.drew)))
 have := seg_walkP (md := .any) hB.1.1 (fun _ _ _ _ h => h) t z _ a w.drew hB.1.2 hS h
 rw [hB.2] at this
 simpa using this
end
end
end Go.Proofs.YtlbclfmbejjneaaGreatDoor
