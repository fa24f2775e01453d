/- The law WrapKnown of layer 14: it answers true, and nothing that was there changes. Condition: utf8's two tables and math/bits' table stand where start-up lays them. Printed by gen_known.py. -/
import Derived.Test.YtphlhnkenehnnaaGreatDoorWorks
namespace Go.Proofs.YtphlhnkenehnnaaGreatDoor
set_option linter.unusedVariables false
set_option linter.unusedSimpArgs false
open Go.RowKit Go.Proofs Go.Shelf
attribute [local go_sem] Oper.semAt_some

theorem rd_new (W : World) (t : Nat) (l : List RowV) (cs : Array Value) (h : cs = (l.flatMap rcell).toArray) : RdR (W.alloc (.cells cs t)) (some ⟨W.heap.size, 0, none⟩) l := by
  subst h
  refine .inr ⟨W.heap.size, 0, rfl, by rw [World.size_alloc]; omega, fun i r hi k v hv => ?_⟩
  have h := World.cell?_alloc_mark W (l.flatMap rcell).toArray t (0, 0) (i * 5 + k)
  rw [Nat.zero_add]
  refine h.trans ?_
  simpa using flat5_get l i r hi k v hv
theorem known_0 : rowsI ⟨#[97, 98, 32, 99, 100]⟩ 5 0 0 false false = [⟨0, 5, 0, 5, 0⟩] := by decide +kernel
theorem known_1 : rowsI ⟨#[]⟩ 3 0 0 false false = [⟨0, 0, 0, 0, 0⟩] := by decide +kernel
theorem known_2 : rowsI ⟨#[10]⟩ 3 0 0 false false = [⟨0, 0, 0, 0, 1⟩] := by decide +kernel
theorem known_3 : rowsI ⟨#[97, 98, 99, 100, 101, 102]⟩ 4 0 0 false false = [⟨0, 4, 0, 4, 3⟩, ⟨4, 2, 0, 2, 0⟩] := by decide +kernel
theorem known_4 : rowsI ⟨#[228, 184, 128, 228, 186, 140, 228, 184, 137]⟩ 5 0 0 false false = [⟨0, 6, 0, 4, 2⟩, ⟨6, 3, 0, 2, 0⟩] := by decide +kernel
theorem known_5 : rowsI ⟨#[228, 184, 128]⟩ 1 0 0 false false = [⟨0, 3, 0, 2, 0⟩] := by decide +kernel
theorem known_6 : rowsI ⟨#[97, 98, 32, 32, 32, 99, 100]⟩ 3 0 0 false false = [⟨0, 5, 0, 3, 2⟩, ⟨5, 2, 0, 2, 0⟩] := by decide +kernel
theorem known_7 : rowsI ⟨#[97, 255, 98]⟩ 4 0 0 false false = [⟨0, 1, 0, 1, 3⟩, ⟨1, 1, 0, 4, 3⟩, ⟨2, 1, 0, 1, 0⟩] := by decide +kernel
theorem known_8 : rowsI ⟨#[215, 169, 215, 156]⟩ 9 0 0 false false = [⟨0, 4, 1, 2, 0⟩] := by decide +kernel
theorem known_9 : rowsI ⟨#[215, 169, 215, 156]⟩ 9 0 1 false false = [⟨0, 4, 0, 2, 0⟩] := by decide +kernel
theorem known_10 : rowsI ⟨#[215, 169]⟩ 9 0 0 false true = [⟨0, 2, 0, 1, 0⟩] := by decide +kernel
set_option maxHeartbeats 1000000 in
theorem knownC_any (line : ByteArray) (wd tab want : Int) (wideA join raw : Bool) (pb : Option Addr) (n c : Nat) (l : List RowV) (hl : rowsI line wd tab want wideA raw = l) (hn : l.length = n) (w : World) (hb : RdR w pb l) (hT : T8 w) (hD : DB w) :
    Calls Tryz.prog 16 #[.string line, .int .i64 wd, lookV tab want wideA join raw, .slice pb n c] w fun e w' => e = .returned (.bool true) ∧ Below w.heap.size w w' := by
  have hz : n ≤ 65537 := by rw [← hn, ← hl]; exact rows_len line wd tab want wideA raw
  have hb0 : Below w.heap.size w (w.alloc (.cells #[.int .i64 tab, .bool wideA, .int .i8 want, .bool join, .bool raw] 24)) := (Below.refl _ _).alloc (Nat.le_refl _) _
  have hx0 : (w.alloc (.cells #[.int .i64 tab, .bool wideA, .int .i8 want, .bool join, .bool raw] 24)).heap[w.heap.size]? = some (.cells #[.int .i64 tab, .bool wideA, .int .i8 want, .bool join, .bool raw] 24 (0, 0)) := World.alloc_heap_new w _
  have hT1 := hT.below rfl hb0
  have hD1 := hD.below hb0
  go_enter Tryz.func16, Tryz.ntmps16
  go_upto_region 1 with (fail)
  generalize w.alloc (.cells #[.int .i64 tab, .bool wideA, .int .i8 want, .bool join, .bool raw] 24) = W0 at hb0 hx0 hT1 hD1 ⊢
  have l0 : W0.cell? ⟨w.heap.size, 0, none⟩ = some (.int .i64 tab) := by simp [World.cell?, hx0]
  have l1 : W0.cell? ⟨w.heap.size, 1, none⟩ = some (.bool wideA) := by simp [World.cell?, hx0]
  have l2 : W0.cell? ⟨w.heap.size, 2, none⟩ = some (.int .i8 want) := by simp [World.cell?, hx0]
  have l3 : W0.cell? ⟨w.heap.size, 3, none⟩ = some (.bool join) := by simp [World.cell?, hx0]
  have l4 : W0.cell? ⟨w.heap.size, 4, none⟩ = some (.bool raw) := by simp [World.cell?, hx0]
  have HR : Hid (Calls Tryz.prog 10 #[.string line, .int .i64 wd, lookV tab want wideA join raw] W0 fun e w' => ∃ pa cap, e = .returned (.slice pa n cap) ∧ RdR w' pa l ∧ RdR w' pb l ∧ Below w.heap.size w w') :=
    Lib.hid ((Rows_any line wd tab want wideA join raw W0 hT1 hD1).mono fun e w' ⟨pa, cap, h3, h4, h5⟩ => by
      rw [hl, hn] at h3
      rw [hl] at h4
      have h6 := hb0.trans (h5.mono hb0.size)
      exact ⟨pa, cap, h3, by rw [hn] at h4; subst hn; exact h4.rd, hb.below h6, h6⟩)
  have HN := Lib.hid hn
  clear hT hD hT1 hD1 hx0 hb0 hl hn hb
  go_wp2_with (first
    | (go_at_call 10; refine HR.out.mono ?_; rintro e w1 ⟨pa, cap, rfl, hr1, hr2, hb1⟩)
    | (go_at_call 11; refine (same_any pa pb cap c n n l l HN.out HN.out (by omega) (by omega) w1 hr1 hr2).mono ?_; rintro e w2 ⟨rfl, d, rfl⟩))
  go_ret
  exact ⟨rfl, bl_drewN hb1 d⟩
set_option maxHeartbeats 2000000 in
theorem LawWK_any (w : World) (hT : T8 w) (hD : DB w) : Calls Tryz.prog 6 #[] w fun e w' => e = .returned (.bool true) ∧ Below w.heap.size w w' := by
  have hb0 : Below w.heap.size w (w.alloc (.cells #[.int .i64 0, .bool false, .int .i8 0, .bool false, .bool false] 24)) := (Below.refl _ _).alloc (Nat.le_refl _) _
  have hx0 := World.alloc_heap_new w (.cells #[.int .i64 0, .bool false, .int .i8 0, .bool false, .bool false] 24)
  go_enter Tryz.func6, Tryz.ntmps6
  go_upto_region 3 with (fail)
  generalize w.alloc (.cells #[.int .i64 0, .bool false, .int .i8 0, .bool false, .bool false] 24) = W0 at hb0 hx0 ⊢
  have hs0 : w.heap.size < W0.heap.size := (Array.getElem?_eq_some_iff.1 hx0).1
  have l0_0 : W0.cell? ⟨w.heap.size, 0, none⟩ = some (.int .i64 0) := by simp [World.cell?, hx0]
  have l0_1 : W0.cell? ⟨w.heap.size, 1, none⟩ = some (.bool false) := by simp [World.cell?, hx0]
  have l0_2 : W0.cell? ⟨w.heap.size, 2, none⟩ = some (.int .i8 0) := by simp [World.cell?, hx0]
  have l0_3 : W0.cell? ⟨w.heap.size, 3, none⟩ = some (.bool false) := by simp [World.cell?, hx0]
  have l0_4 : W0.cell? ⟨w.heap.size, 4, none⟩ = some (.bool false) := by simp [World.cell?, hx0]
  have HL : Hid (∀ W, Below W0.heap.size W0 W → W.cell? ⟨w.heap.size, 0, none⟩ = some (.int .i64 0) ∧ W.cell? ⟨w.heap.size, 1, none⟩ = some (.bool false) ∧ W.cell? ⟨w.heap.size, 2, none⟩ = some (.int .i8 0) ∧ W.cell? ⟨w.heap.size, 3, none⟩ = some (.bool false) ∧ W.cell? ⟨w.heap.size, 4, none⟩ = some (.bool false)) :=
    Lib.hid fun W hb => ⟨cell_bl hb hs0 l0_0, cell_bl hb hs0 l0_1, cell_bl hb hs0 l0_2, cell_bl hb hs0 l0_3, cell_bl hb hs0 l0_4⟩
  have HT : Hid (∀ W, Below W0.heap.size W0 W → T8 W) := Lib.hid fun W hb => (hT.below rfl hb0).below rfl hb
  have HD : Hid (∀ W, Below W0.heap.size W0 W → DB W) := Lib.hid fun W hb => (hD.below hb0).below hb
  have HB0 := Lib.hid hb0
  clear hT hD hb0 hx0
  have b0 : Below W0.heap.size W0 W0 := Below.refl _ _
  have K1 : Hid (∀ W, Below W0.heap.size W0 W → Calls Tryz.prog 16 #[.string ⟨#[97, 98, 32, 99, 100]⟩, .int .i64 5, lookV 0 0 false false false, .slice (some ⟨W.heap.size, 0, none⟩) 1 1] (W.alloc (.cells #[.int .i64 0, .int .i64 5, .int .u8 0, .int .i64 5, .int .i8 0] 30)) fun e w' => e = .returned (.bool true) ∧ Below W0.heap.size W0 w') :=
    Lib.hid fun W hb => by
      have hbA := hb.alloc hb.size (.cells #[.int .i64 0, .int .i64 5, .int .u8 0, .int .i64 5, .int .i8 0] 30)
      exact (knownC_any _ _ _ _ _ _ _ _ _ _ _ known_0 rfl _ (rd_new W _ _ _ (by simp [rcell])) (HT.out _ hbA) (HD.out _ hbA)).mono fun e w' ⟨h1, h2⟩ => ⟨h1, hbA.trans (h2.mono hbA.size)⟩
  have K2 : Hid (∀ W, Below W0.heap.size W0 W → Calls Tryz.prog 16 #[.string ⟨#[]⟩, .int .i64 3, lookV 0 0 false false false, .slice (some ⟨W.heap.size, 0, none⟩) 1 1] (W.alloc (.cells #[.int .i64 0, .int .i64 0, .int .u8 0, .int .i64 0, .int .i8 0] 30)) fun e w' => e = .returned (.bool true) ∧ Below W0.heap.size W0 w') :=
    Lib.hid fun W hb => by
      have hbA := hb.alloc hb.size (.cells #[.int .i64 0, .int .i64 0, .int .u8 0, .int .i64 0, .int .i8 0] 30)
      exact (knownC_any _ _ _ _ _ _ _ _ _ _ _ known_1 rfl _ (rd_new W _ _ _ (by simp [rcell])) (HT.out _ hbA) (HD.out _ hbA)).mono fun e w' ⟨h1, h2⟩ => ⟨h1, hbA.trans (h2.mono hbA.size)⟩
  have K3 : Hid (∀ W, Below W0.heap.size W0 W → Calls Tryz.prog 16 #[.string ⟨#[10]⟩, .int .i64 3, lookV 0 0 false false false, .slice (some ⟨W.heap.size, 0, none⟩) 1 1] (W.alloc (.cells #[.int .i64 0, .int .i64 0, .int .u8 0, .int .i64 0, .int .i8 1] 30)) fun e w' => e = .returned (.bool true) ∧ Below W0.heap.size W0 w') :=
    Lib.hid fun W hb => by
      have hbA := hb.alloc hb.size (.cells #[.int .i64 0, .int .i64 0, .int .u8 0, .int .i64 0, .int .i8 1] 30)
      exact (knownC_any _ _ _ _ _ _ _ _ _ _ _ known_2 rfl _ (rd_new W _ _ _ (by simp [rcell])) (HT.out _ hbA) (HD.out _ hbA)).mono fun e w' ⟨h1, h2⟩ => ⟨h1, hbA.trans (h2.mono hbA.size)⟩
  have K4 : Hid (∀ W, Below W0.heap.size W0 W → Calls Tryz.prog 16 #[.string ⟨#[97, 98, 99, 100, 101, 102]⟩, .int .i64 4, lookV 0 0 false false false, .slice (some ⟨W.heap.size, 0, none⟩) 2 2] (W.alloc (.cells #[.int .i64 0, .int .i64 4, .int .u8 0, .int .i64 4, .int .i8 3, .int .i64 4, .int .i64 2, .int .u8 0, .int .i64 2, .int .i8 0] 30)) fun e w' => e = .returned (.bool true) ∧ Below W0.heap.size W0 w') :=
    Lib.hid fun W hb => by
      have hbA := hb.alloc hb.size (.cells #[.int .i64 0, .int .i64 4, .int .u8 0, .int .i64 4, .int .i8 3, .int .i64 4, .int .i64 2, .int .u8 0, .int .i64 2, .int .i8 0] 30)
      exact (knownC_any _ _ _ _ _ _ _ _ _ _ _ known_3 rfl _ (rd_new W _ _ _ (by simp [rcell])) (HT.out _ hbA) (HD.out _ hbA)).mono fun e w' ⟨h1, h2⟩ => ⟨h1, hbA.trans (h2.mono hbA.size)⟩
  have K5 : Hid (∀ W, Below W0.heap.size W0 W → Calls Tryz.prog 16 #[.string ⟨#[228, 184, 128, 228, 186, 140, 228, 184, 137]⟩, .int .i64 5, lookV 0 0 false false false, .slice (some ⟨W.heap.size, 0, none⟩) 2 2] (W.alloc (.cells #[.int .i64 0, .int .i64 6, .int .u8 0, .int .i64 4, .int .i8 2, .int .i64 6, .int .i64 3, .int .u8 0, .int .i64 2, .int .i8 0] 30)) fun e w' => e = .returned (.bool true) ∧ Below W0.heap.size W0 w') :=
    Lib.hid fun W hb => by
      have hbA := hb.alloc hb.size (.cells #[.int .i64 0, .int .i64 6, .int .u8 0, .int .i64 4, .int .i8 2, .int .i64 6, .int .i64 3, .int .u8 0, .int .i64 2, .int .i8 0] 30)
      exact (knownC_any _ _ _ _ _ _ _ _ _ _ _ known_4 rfl _ (rd_new W _ _ _ (by simp [rcell])) (HT.out _ hbA) (HD.out _ hbA)).mono fun e w' ⟨h1, h2⟩ => ⟨h1, hbA.trans (h2.mono hbA.size)⟩
  have K6 : Hid (∀ W, Below W0.heap.size W0 W → Calls Tryz.prog 16 #[.string ⟨#[228, 184, 128]⟩, .int .i64 1, lookV 0 0 false false false, .slice (some ⟨W.heap.size, 0, none⟩) 1 1] (W.alloc (.cells #[.int .i64 0, .int .i64 3, .int .u8 0, .int .i64 2, .int .i8 0] 30)) fun e w' => e = .returned (.bool true) ∧ Below W0.heap.size W0 w') :=
    Lib.hid fun W hb => by
      have hbA := hb.alloc hb.size (.cells #[.int .i64 0, .int .i64 3, .int .u8 0, .int .i64 2, .int .i8 0] 30)
      exact (knownC_any _ _ _ _ _ _ _ _ _ _ _ known_5 rfl _ (rd_new W _ _ _ (by simp [rcell])) (HT.out _ hbA) (HD.out _ hbA)).mono fun e w' ⟨h1, h2⟩ => ⟨h1, hbA.trans (h2.mono hbA.size)⟩
  have K7 : Hid (∀ W, Below W0.heap.size W0 W → Calls Tryz.prog 16 #[.string ⟨#[97, 98, 32, 32, 32, 99, 100]⟩, .int .i64 3, lookV 0 0 false false false, .slice (some ⟨W.heap.size, 0, none⟩) 2 2] (W.alloc (.cells #[.int .i64 0, .int .i64 5, .int .u8 0, .int .i64 3, .int .i8 2, .int .i64 5, .int .i64 2, .int .u8 0, .int .i64 2, .int .i8 0] 30)) fun e w' => e = .returned (.bool true) ∧ Below W0.heap.size W0 w') :=
    Lib.hid fun W hb => by
      have hbA := hb.alloc hb.size (.cells #[.int .i64 0, .int .i64 5, .int .u8 0, .int .i64 3, .int .i8 2, .int .i64 5, .int .i64 2, .int .u8 0, .int .i64 2, .int .i8 0] 30)
      exact (knownC_any _ _ _ _ _ _ _ _ _ _ _ known_6 rfl _ (rd_new W _ _ _ (by simp [rcell])) (HT.out _ hbA) (HD.out _ hbA)).mono fun e w' ⟨h1, h2⟩ => ⟨h1, hbA.trans (h2.mono hbA.size)⟩
  have K8 : Hid (∀ W, Below W0.heap.size W0 W → Calls Tryz.prog 16 #[.string ⟨#[97, 255, 98]⟩, .int .i64 4, lookV 0 0 false false false, .slice (some ⟨W.heap.size, 0, none⟩) 3 3] (W.alloc (.cells #[.int .i64 0, .int .i64 1, .int .u8 0, .int .i64 1, .int .i8 3, .int .i64 1, .int .i64 1, .int .u8 0, .int .i64 4, .int .i8 3, .int .i64 2, .int .i64 1, .int .u8 0, .int .i64 1, .int .i8 0] 30)) fun e w' => e = .returned (.bool true) ∧ Below W0.heap.size W0 w') :=
    Lib.hid fun W hb => by
      have hbA := hb.alloc hb.size (.cells #[.int .i64 0, .int .i64 1, .int .u8 0, .int .i64 1, .int .i8 3, .int .i64 1, .int .i64 1, .int .u8 0, .int .i64 4, .int .i8 3, .int .i64 2, .int .i64 1, .int .u8 0, .int .i64 1, .int .i8 0] 30)
      exact (knownC_any _ _ _ _ _ _ _ _ _ _ _ known_7 rfl _ (rd_new W _ _ _ (by simp [rcell])) (HT.out _ hbA) (HD.out _ hbA)).mono fun e w' ⟨h1, h2⟩ => ⟨h1, hbA.trans (h2.mono hbA.size)⟩
  have K9 : Hid (∀ W, Below W0.heap.size W0 W → Calls Tryz.prog 16 #[.string ⟨#[215, 169, 215, 156]⟩, .int .i64 9, lookV 0 0 false false false, .slice (some ⟨W.heap.size, 0, none⟩) 1 1] (W.alloc (.cells #[.int .i64 0, .int .i64 4, .int .u8 1, .int .i64 2, .int .i8 0] 30)) fun e w' => e = .returned (.bool true) ∧ Below W0.heap.size W0 w') :=
    Lib.hid fun W hb => by
      have hbA := hb.alloc hb.size (.cells #[.int .i64 0, .int .i64 4, .int .u8 1, .int .i64 2, .int .i8 0] 30)
      exact (knownC_any _ _ _ _ _ _ _ _ _ _ _ known_8 rfl _ (rd_new W _ _ _ (by simp [rcell])) (HT.out _ hbA) (HD.out _ hbA)).mono fun e w' ⟨h1, h2⟩ => ⟨h1, hbA.trans (h2.mono hbA.size)⟩
  have K10 : Hid (∀ W, Below W0.heap.size W0 W → Calls Tryz.prog 16 #[.string ⟨#[215, 169, 215, 156]⟩, .int .i64 9, lookV 0 1 false false false, .slice (some ⟨W.heap.size, 0, none⟩) 1 1] (W.alloc (.cells #[.int .i64 0, .int .i64 4, .int .u8 0, .int .i64 2, .int .i8 0] 30)) fun e w' => e = .returned (.bool true) ∧ Below W0.heap.size W0 w') :=
    Lib.hid fun W hb => by
      have hbA := hb.alloc hb.size (.cells #[.int .i64 0, .int .i64 4, .int .u8 0, .int .i64 2, .int .i8 0] 30)
      exact (knownC_any _ _ _ _ _ _ _ _ _ _ _ known_9 rfl _ (rd_new W _ _ _ (by simp [rcell])) (HT.out _ hbA) (HD.out _ hbA)).mono fun e w' ⟨h1, h2⟩ => ⟨h1, hbA.trans (h2.mono hbA.size)⟩
  have K11 : Hid (∀ W, Below W0.heap.size W0 W → Calls Tryz.prog 16 #[.string ⟨#[215, 169]⟩, .int .i64 9, lookV 0 0 false false true, .slice (some ⟨W.heap.size, 0, none⟩) 1 1] (W.alloc (.cells #[.int .i64 0, .int .i64 2, .int .u8 0, .int .i64 1, .int .i8 0] 30)) fun e w' => e = .returned (.bool true) ∧ Below W0.heap.size W0 w') :=
    Lib.hid fun W hb => by
      have hbA := hb.alloc hb.size (.cells #[.int .i64 0, .int .i64 2, .int .u8 0, .int .i64 1, .int .i8 0] 30)
      exact (knownC_any _ _ _ _ _ _ _ _ _ _ _ known_10 rfl _ (rd_new W _ _ _ (by simp [rcell])) (HT.out _ hbA) (HD.out _ hbA)).mono fun e w' ⟨h1, h2⟩ => ⟨h1, hbA.trans (h2.mono hbA.size)⟩
  have KA : Hid (∀ W, Below W0.heap.size W0 W → Calls Tryz.prog 14 #[.slice none 0 0, .agg #[.int .i64 0, .bool false, .int .i64 0]] W fun e w' => e = .returned (.int .i64 (-1)) ∧ Below W0.heap.size W0 w') :=
    Lib.hid fun W hb => (At_any none 0 0 [] rfl (by omega) 0 0 false W (.inl rfl)).mono fun e w' ⟨h1, h2⟩ => ⟨h1, hb.trans (h2.mono hb.size)⟩
  have KW : Hid (∀ W, Below W0.heap.size W0 W → Calls Tryz.prog 13 #[] W fun e w' => e = .returned (.bool true) ∧ Below W0.heap.size W0 w') :=
    Lib.hid fun W hb => (works_any W (HT.out _ hb) (HD.out _ hb)).mono fun e w' ⟨h1, h2⟩ => ⟨h1, hb.trans (h2.mono hb.size)⟩
  clear HT HD
  go_upto_region 4 with (first
    | (go_at_call_has 16 (Value.string ⟨#[97, 98, 32, 99, 100]⟩); refine (K1.out _ b0).mono ?_; rintro e w1 ⟨rfl, b1⟩; obtain ⟨l1_0, l1_1, l1_2, l1_3, l1_4⟩ := HL.out _ b1)
    | (go_at_call_has 16 (Value.string ⟨#[]⟩); refine (K2.out _ b1).mono ?_; rintro e w2 ⟨rfl, b2⟩; obtain ⟨l2_0, l2_1, l2_2, l2_3, l2_4⟩ := HL.out _ b2)
    | (go_at_call_has 16 (Value.string ⟨#[10]⟩); refine (K3.out _ b2).mono ?_; rintro e w3 ⟨rfl, b3⟩; obtain ⟨l3_0, l3_1, l3_2, l3_3, l3_4⟩ := HL.out _ b3))
  clear K1 l0_0 l0_1 l0_2 l0_3 l0_4 b0 K2 l1_0 l1_1 l1_2 l1_3 l1_4 b1 K3 l2_0 l2_1 l2_2 l2_3 l2_4 b2
  go_upto_region 5 with (first
    | (go_at_call_has 16 (Value.string ⟨#[97, 98, 99, 100, 101, 102]⟩); refine (K4.out _ b3).mono ?_; rintro e w4 ⟨rfl, b4⟩; obtain ⟨l4_0, l4_1, l4_2, l4_3, l4_4⟩ := HL.out _ b4)
    | (go_at_call_has 16 (Value.string ⟨#[228, 184, 128, 228, 186, 140, 228, 184, 137]⟩); refine (K5.out _ b4).mono ?_; rintro e w5 ⟨rfl, b5⟩; obtain ⟨l5_0, l5_1, l5_2, l5_3, l5_4⟩ := HL.out _ b5)
    | (go_at_call_has 16 (Value.string ⟨#[228, 184, 128]⟩); refine (K6.out _ b5).mono ?_; rintro e w6 ⟨rfl, b6⟩; obtain ⟨l6_0, l6_1, l6_2, l6_3, l6_4⟩ := HL.out _ b6))
  clear K4 l3_0 l3_1 l3_2 l3_3 l3_4 b3 K5 l4_0 l4_1 l4_2 l4_3 l4_4 b4 K6 l5_0 l5_1 l5_2 l5_3 l5_4 b5
  go_upto_region 6 with (first
    | (go_at_call_has 16 (Value.string ⟨#[97, 98, 32, 32, 32, 99, 100]⟩); refine (K7.out _ b6).mono ?_; rintro e w7 ⟨rfl, b7⟩; obtain ⟨l7_0, l7_1, l7_2, l7_3, l7_4⟩ := HL.out _ b7)
    | (go_at_call_has 16 (Value.string ⟨#[97, 255, 98]⟩); refine (K8.out _ b7).mono ?_; rintro e w8 ⟨rfl, b8⟩; obtain ⟨l8_0, l8_1, l8_2, l8_3, l8_4⟩ := HL.out _ b8))
  clear K7 l6_0 l6_1 l6_2 l6_3 l6_4 b6 K8 l7_0 l7_1 l7_2 l7_3 l7_4 b7
  go_upto_region 7 with (first
    | (go_at_call_has 16 (Value.string ⟨#[215, 169, 215, 156]⟩); go_at_call_has 16 (Value.agg #[.int .i64 0, .bool false, .int .i8 0, .bool false, .bool false]); refine (K9.out _ b8).mono ?_; rintro e w9 ⟨rfl, b9⟩; obtain ⟨l9_0, l9_1, l9_2, l9_3, l9_4⟩ := HL.out _ b9)
    | (go_at_call_has 16 (Value.string ⟨#[215, 169, 215, 156]⟩); go_at_call_has 16 (Value.agg #[.int .i64 0, .bool false, .int .i8 1, .bool false, .bool false]); refine (K10.out _ b9).mono ?_; rintro e w10 ⟨rfl, b10⟩; obtain ⟨l10_0, l10_1, l10_2, l10_3, l10_4⟩ := HL.out _ b10)
    | (go_at_call_has 16 (Value.string ⟨#[215, 169]⟩); refine (K11.out _ b10).mono ?_; rintro e w11 ⟨rfl, b11⟩; obtain ⟨l11_0, l11_1, l11_2, l11_3, l11_4⟩ := HL.out _ b11))
  clear K9 l8_0 l8_1 l8_2 l8_3 l8_4 b8 K10 l9_0 l9_1 l9_2 l9_3 l9_4 b9 K11 l10_0 l10_1 l10_2 l10_3 l10_4 b10
  go_wp2_with (first
    | (go_at_call 14; refine (KA.out _ b11).mono ?_; rintro e w12 ⟨rfl, b12⟩)
    | (go_at_call 13; refine (KW.out _ b12).mono ?_; rintro e w13 ⟨rfl, b13⟩))
  go_ret
  exact ⟨rfl, HB0.out.trans (b13.mono HB0.out.size)⟩
end Go.Proofs.YtphlhnkenehnnaaGreatDoor
