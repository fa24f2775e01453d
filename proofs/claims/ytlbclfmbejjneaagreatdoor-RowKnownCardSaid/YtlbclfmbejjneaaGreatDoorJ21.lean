/- Part 21 of the proof (merged by a program out of the texts V5): lemmas of no further condition than each states. -/
import Derived.Test.YtlbclfmbejjneaaGreatDoorProg
import Derived.BigQuiet
import Derived.IntWalk
import Derived.Deep.DeepCutAuto
import Derived.Deep.RegionHeld3
import Derived.Deep.RegionLaw
import Derived.Lib.Hide
import Derived.Deep.CutBlock
import Derived.Deep.LoopGhost
import Derived.Maps.AppendAt
import Derived.Lib.SliceRun
import Derived.Test.YtlbclfmbejjneaaGreatDoorJ20
namespace Go.Proofs.YtlbclfmbejjneaaGreatDoor
set_option linter.unusedVariables false
set_option linter.unusedSimpArgs false
section
open Go.RowKit
theorem nats_ints (l : List Nat) : nats l = (ints l).map (Value.int .i64) := by unfold nats ints; simp [Function.comp_def]
theorem ith_ints (l : List Nat) (i : Nat) : ith (ints l) i = ((l.getD i 0 : Nat) : Int) := by
 unfold ith ints
 rw [List.getD_eq_getElem?_getD, List.getElem?_map, List.getD_eq_getElem?_getD]
 cases l[i]? <;> rfl
theorem ints_len (l : List Nat) : (ints l).length = l.length := by unfold ints; simp
theorem own_out {w : World} {base e n cap : Nat} {a : Option Addr} {l : List Nat} (h : w.ownsRow base e 1 (.slice a n cap) n (nats l)) (hl : l.length = n) : OutAt .i64 e w base a cap (ints l) := by
 unfold OutAt
 rw [ints_len, hl, ← nats_ints]
 exact h
set_option maxRecDepth 100000 in
set_option maxHeartbeats 400000 in
theorem ClI_any (G o n c L : Nat) (l : List Nat) (w : World) (hl : l.length = L) (hd : Rd .i64 w (some ⟨G, o, none⟩) (ints l)) (hp : 0 < L) (hn : L ≤ 2097152) :
 Calls Tryz.prog 154 #[.slice (some ⟨G, o, none⟩) L c] w fun e w' => ∃ a c', e = .returned (.slice a L c') ∧ OutAt .i64 3 w' w.heap.size a c' (ints l) ∧ Below w.heap.size w w' := by
 obtain ⟨i3, hi3, hz3, ha3, hb3⟩ := info_parts (Tryz.info_int)
 have hcells : ∀ j u, (nats l)[j]? = some u → (w.alloc (.cells #[] 3)).cell? ((⟨G, o, none⟩ : Addr).add j) = some u := fun j u hj => by
  have hjl : j < l.length := by
   rcases Nat.lt_or_ge j l.length with h | h
   ·exact h
   ·rw [List.getElem?_eq_none (by rw [nats_len]; exact h)] at hj; cases hj
  obtain ⟨b, off, e, hb, hc⟩ := hd.at ((Below.refl w.heap.size w).alloc (Nat.le_refl _) (.cells #[] 3)) j (by rw [ints_len]; exact hjl)
  cases e
  rw [nats_get l j hjl] at hj
  cases hj
  rw [Addr.add_lit, hc, ith_ints]
 have HC := Lib.hid hcells
 have HL := Lib.hid hl
 have q22 : ∀ (w : World) (a : Option Addr) (n c n' c' : Nat), (binOp .eql 56 (.slice a n c) (.slice none n' c')).run Tryz.prog w = .ok (.bool a.isNone) w := fun w a n c n' c' => Lib.run_eql_slice_nil w _ _ a n c n' c' Tryz.underlying56
 clear hcells hl hd
 go_enter Tryz.func154, Tryz.ntmps154
 go_wp2_with (at_builtin; refine wpList_append_own _ rfl _ _ 56 rfl w.heap.size 3 i3 (.int .i64 0) 1 8 Tryz.underlying56 hi3 hz3 ha3 hb3 rfl (by decide) _ _ _ rfl (World.ownsRow_made w #[] 0 (Nat.le_refl _) (Nat.zero_le _) (by simp)) ⟨G, o, none⟩ L c (nats l) rfl (by rw [nats_len, HL.out]; omega) HC.out (fun u hu => by unfold nats at hu; rw [List.mem_map] at hu; obtain ⟨x, _, rfl⟩ := hu; rfl) (by unfold maxLen; omega) (by omega) (by simp) ?_; intro v' w' ho hg _)
 obtain ⟨va, vc, hva, _, _⟩ := own_slice ho
 subst hva
 go_ret
 rw [Nat.zero_add, List.nil_append] at ho
 refine ⟨va, vc, by rw [Nat.zero_add]; rfl, own_out ho HL.out, ((Below.refl w.heap.size w).alloc (Nat.le_refl _) _).grown hg (by simp) (fun k hk => by cases hk; exact Nat.le_refl _)⟩
theorem SidesF_any (x : Int) (B : Nat) (n : Nat) (W : World) (hc : W.cell? ⟨B, 0, none⟩ = some (.int .i64 n)) :
 Calls Tryz.prog 155 #[.int .i64 x, .pointer (some ⟨B, 0, none⟩)] W fun e w' => e = .returned (.bool (decide (x < 0) || decide ((n : Int) ≤ x))) ∧ w' = W := by
 go_enter Tryz.func155, Tryz.ntmps155
 by_cases h0 : x < 0
 ·go_wp2_with (fail)
  go_ret
  exact ⟨ret_b (by simp [h0]), rfl⟩
 ·go_wp2_with (fail)
  go_ret
  exact ⟨ret_b (by rw [decide_eq_false (show ¬ x < 0 by omega)]; rfl), rfl⟩
set_option maxRecDepth 100000 in
set_option maxHeartbeats 400000 in
theorem IxF_any (a : Option Addr) (l : List Nat) (L c B n : Nat) (w : World) (hl : l.length = L) (hd : Rd .i64 w a (ints l)) (hc : w.cell? ⟨B, 0, none⟩ = some (.int .i64 n)) (hn : L ≤ 2097152) (hall : ∀ p ∈ l, p < n) :
 Calls Tryz.prog 181 #[.slice a L c, .func (.func 155) #[] #[.pointer (some ⟨B, 0, none⟩)]] w fun e w' => e = .returned (.int .i64 (-1)) ∧ w' = w := by
 have HL := Lib.hid hl
 have HA := Lib.hid hall
 have HC := Lib.hid hc
 clear hl hall hc
 go_enter Tryz.func181, Tryz.ntmps181
 go_wp2_with (fail)
 go_loopw [8] (fun u wx => ∃ i : Nat, i ≤ L ∧ u = .int .i64 i ∧ wx = w) (fun u _ => L - (intOf u).toNat)
 case atStart => exact ⟨0, by omega, rfl, rfl⟩
 case round =>
  obtain ⟨i, hi, rfl, hwx⟩ := hrel
  have hwx' := hwx.symm
  clear hwx
  subst hwx'
  by_cases hlt : i < L
  ·obtain ⟨G, o, rfl, hG, hcell⟩ := hd.at (Below.refl _ _) i (by rw [ints_len, HL.out]; exact hlt)
   rw [ith_ints] at hcell
   obtain ⟨x, hx⟩ : ∃ x, l.getD i 0 = x := ⟨_, rfl⟩
   have hxn : x < n := HA.out x (by rw [← hx, List.getD_eq_getElem?_getD, List.getElem?_eq_getElem (by have := HL.out; omega)]; exact List.getElem_mem _)
   rw [hx] at hcell
   have HS : Hid (Calls Tryz.prog 155 #[.int .i64 x, .pointer (some ⟨B, 0, none⟩)] w fun e w' => e = .returned (.bool false) ∧ w' = w) := Lib.hid ((SidesF_any x B n w HC.out).mono fun e w' h => ⟨h.1.trans (ret_b (by rw [decide_eq_false (by omega), decide_eq_false (by omega)]; rfl)), h.2⟩)
   clear hx
   go_wp2_with (go_at_call 155; refine HS.out.mono ?_; rintro e w' ⟨rfl, hw'⟩; have hw2 := hw'.symm; clear hw'; subst hw2)
   go_roundw
   case rel => exact ⟨i + 1, by omega, by go_num, trivial⟩
   case measure => simp [intOf]; omega
  ·have hie : i = L := by omega
   clear hi
   go_wp2_with (fail)
   go_ret
   exact ⟨rfl, rfl⟩
theorem DelF_any (a : Option Addr) (l : List Nat) (L c B n : Nat) (w : World) (hl : l.length = L) (hd : Rd .i64 w a (ints l)) (hc : w.cell? ⟨B, 0, none⟩ = some (.int .i64 n)) (hn : L ≤ 2097152) (hall : ∀ p ∈ l, p < n) :
 Calls Tryz.prog 153 #[.slice a L c, .func (.func 155) #[] #[.pointer (some ⟨B, 0, none⟩)]] w fun e w' => e = .returned (.slice a L c) ∧ w' = w := by
 have HI := Lib.hid (IxF_any a l L c B n w hl hd hc hn hall)
 clear hl hd hc hall
 go_enter Tryz.func153, Tryz.ntmps153
 go_wp2_with (go_at_call 181; refine HI.out.mono ?_; rintro e w' ⟨rfl, hw'⟩; have hw2 := hw'.symm; clear hw'; subst hw2)
 go_ret
 exact ⟨rfl, rfl⟩
end
section
open Go.RowKit
theorem getD_le {ls : List Nat} (h : ∀ l ∈ ls, l ≤ 125) (i : Nat) : ls.getD i 0 ≤ 125 := by
 rw [List.getD_eq_getElem?_getD]
 cases hx : ls[i]? with
 | none => simp
 | some x => exact h x (List.mem_of_getElem? hx)
theorem aheadL_le (ds : List Int) (ls : List Nat) (base : Nat) (hb : base ≤ 125) (h : ∀ l ∈ ls, l ≤ 125) : ∀ i, aheadL ds ls base i ≤ 125
 | 0 => hb
 | i + 1 => by
   rw [aheadL]
   split
   ·exact hb
   ·split
    ·exact aheadL_le ds ls base hb h i
    ·exact getD_le h i
theorem behindL_le (ds : List Int) (ls : List Nat) (base : Nat) (hb : base ≤ 125) (h : ∀ l ∈ ls, l ≤ 125) : ∀ m i, behindL ds ls base m i ≤ 125
 | 0, _ => hb
 | m + 1, i => by
   rw [behindL]
   split
   ·exact behindL_le ds ls base hb h m (i + 1)
   ·exact getD_le h i
theorem bits_one (v : Nat) (h : v ≤ 125) : bits .and .u8 (v : Int) 1 = ((v % 2 : Nat) : Int) := by
 have : ∀ k : Fin 126, bits .and .u8 ((k : Nat) : Int) 1 = (((k : Nat) % 2 : Nat) : Int) := by decide
 exact this ⟨v, by omega⟩
def behindG (ds : List Int) (ls : List Nat) (base b n : Nat) : Nat :=
 if (opensB (lkn (ith ds b)) = false ∨ 0 ≤ ith (pairsI ds) b) ∧ lkn (ith ds b) ≠ 10 then behindL ds ls base (n - (b + 1)) (b + 1) else base
theorem sidesI_at (ds : List Int) (ls run : List Nat) (base n : Nat) (hl : ds.length = n) (hll : ls.length = n) (hp : run ≠ []) (hall : ∀ p ∈ run, p < n) :
 sidesI ds ls base run = (((max (ls.getD (run.getD 0 0) 0) (aheadL ds ls base (run.getD 0 0)) % 2 : Nat) : Int), ((max (ls.getD (run.getLastD 0) 0) (behindG ds ls base (run.getLastD 0) n) % 2 : Nat) : Int)) := by
 unfold sidesI behindG
 have e : min ds.length ls.length = n := by omega
 have e2 : ds.take n = ds := by rw [← hl]; exact List.take_length
 have e3 : run.filter (fun p => decide (p < n)) = run := List.filter_eq_self.2 fun p hp => by simpa using hall p hp
 simp only [e, e2, e3, if_neg hp]
set_option maxRecDepth 100000 in
set_option maxHeartbeats 1000000 in
theorem LSides_any (a la ra : Option Addr) (ds : List Int) (ls run : List Nat) (n cap lc rc L base : Nat) (w : World) (hl : ds.length = n) (hll : ls.length = n) (hrl : run.length = L)
 (hd : Rd .i8 w a ds) (hls : Rd .u8 w la (ints ls)) (hr : Rd .i64 w ra (ints run)) (hp : 0 < L) (hn : n ≤ 2097152) (hLn : L ≤ 2097152) (hnc : n ≤ cap) (hcm : cap ≤ 9223372036854775807)
 (hall : ∀ p ∈ run, p < n) (hb : base ≤ 125) (hlv : ∀ l ∈ ls, l ≤ 125) :
 Calls Tryz.prog 129 #[.slice a n cap, .slice la n lc, .int .u8 base, .slice ra L rc] w fun e w' =>
  e = .returned (.tuple #[.int .i8 (sidesI ds ls base run).1, .int .i8 (sidesI ds ls base run).2]) ∧ Below w.heap.size w w' := by
 have hrne : run ≠ [] := by intro e; rw [e] at hrl; simp at hrl; omega
 rw [sidesI_at ds ls run base n hl hll hrne hall]
 obtain ⟨Lm, hLm⟩ : ∃ Lm, L = Lm + 1 := ⟨L - 1, by omega⟩
 obtain ⟨a0, ha0⟩ : ∃ a0, run.getD 0 0 = a0 := ⟨_, rfl⟩
 obtain ⟨b0, hb0⟩ : ∃ b0, run.getLastD 0 = b0 := ⟨_, rfl⟩
 have hb0' : run.getD Lm 0 = b0 := by
  rw [← hb0, List.getLastD_eq_getLast?, List.getLast?_eq_getElem?, hrl, hLm, Nat.add_sub_cancel, List.getD_eq_getElem?_getD]
 have ha0n : a0 < n := hall a0 (by rw [← ha0, List.getD_eq_getElem?_getD, List.getElem?_eq_getElem (by omega)]; exact List.getElem_mem _)
 have hb0n : b0 < n := hall b0 (by rw [← hb0', List.getD_eq_getElem?_getD, List.getElem?_eq_getElem (by omega)]; exact List.getElem_mem _)
 rw [ha0, hb0]
 obtain ⟨A, hA⟩ : ∃ A, aheadL ds ls base a0 = A := ⟨_, rfl⟩
 obtain ⟨Bh, hBh⟩ : ∃ Bh, behindG ds ls base b0 n = Bh := ⟨_, rfl⟩
 have hA5 : A ≤ 125 := by rw [← hA]; exact aheadL_le ds ls base hb hlv a0
 have hB5 : Bh ≤ 125 := by
  rw [← hBh]; unfold behindG
  split
  ·exact behindL_le ds ls base hb hlv _ _
  ·exact hb
 have hx5 := getD_le hlv a0
 have hy5 := getD_le hlv b0
 rw [hA, hBh]
 obtain ⟨xa, hxa'⟩ : ∃ xa, ls.getD a0 0 = xa := ⟨_, rfl⟩
 obtain ⟨xb, hxb'⟩ : ∃ xb, ls.getD b0 0 = xb := ⟨_, rfl⟩
 rw [hxa'] at hx5 ⊢
 rw [hxb'] at hy5 ⊢
 obtain ⟨m1, hm1⟩ : ∃ m1, max xa A = m1 := ⟨_, rfl⟩
 obtain ⟨m2, hm2⟩ : ∃ m2, max xb Bh = m2 := ⟨_, rfl⟩
 rw [hm1, hm2]
 have hmx1 : max (xa : Int) (A : Int) = (m1 : Int) := by omega
 have hmx2 : max (xb : Int) (Bh : Int) = (m2 : Int) := by omega
 have hb1 := bits_one m1 (by omega)
 have hb2 := bits_one m2 (by omega)
 have hh1 : ((m1 % 2 : Nat) : Int) ≤ 1 := by omega
 have hh2 : ((m2 % 2 : Nat) : Int) ≤ 1 := by omega
 have hh3 : 0 ≤ ((m1 % 2 : Nat) : Int) := by omega
 have hh4 : 0 ≤ ((m2 % 2 : Nat) : Int) := by omega
 generalize ((m1 % 2 : Nat) : Int) = q1 at hb1 hh1 hh3 ⊢
 generalize ((m2 % 2 : Nat) : Int) = q2 at hb2 hh2 hh4 ⊢
 have HXA := Lib.hid hxa'
 have HXB := Lib.hid hxb'
 have HM1 := Lib.hid hmx1
 have HM2 := Lib.hid hmx2
 have HQ1 := Lib.hid hb1
 have HQ2 := Lib.hid hb2
 clear hxa' hxb' hm1 hm2 hmx1 hmx2 hb1 hb2
 obtain ⟨B, o, hra, hBl, hr0⟩ := hr.at (Below.refl _ _) 0 (by rw [ints_len]; omega)
 subst hra
 obtain ⟨W0, hW0⟩ : ∃ W0, W0 = w.alloc (.cells #[.int .i64 n] 3) := ⟨_, rfl⟩
 have hb00 : Below w.heap.size w W0 := by rw [hW0]; exact (Below.refl _ _).alloc (Nat.le_refl _) _
 have hz0 : W0.heap.size = w.heap.size + 1 := by rw [hW0, World.size_alloc]
 have hcB : W0.cell? ⟨w.heap.size, 0, none⟩ = some (.int .i64 n) := by rw [hW0]; simp
 have hCL := ClI_any B o L rc L run W0 hrl (hr.below hb00) hp hLn
 have HL := Lib.hid hl
 have HLL := Lib.hid hll
 have HRL := Lib.hid hrl
 have HALL := Lib.hid hall
 have HA := Lib.hid hA
 have HBH := Lib.hid hBh
 have HW0 := Lib.hid hW0
 have HA0 := Lib.hid ha0
 have HB0 := Lib.hid hb0'
 have HLM := Lib.hid hLm
 have HCL := Lib.hid hCL
 have HCB := Lib.hid hcB
 have hL0 : ((L : Int) == 0) = false := by simp; omega
 clear hl hll hrl hall hA hBh hW0 ha0 hb0 hb0' hLm hCL hcB hrne hr0
 go_enter Tryz.func129, Tryz.ntmps129
 go_upto_region 2 with (fail)
 rw [← HW0.out]
 go_upto_region 5 with (first | (go_at_call 154; refine HCL.out.mono ?_; rintro e w1 ⟨a1, c1, rfl, hO1, hb1⟩) | (go_at_call 153; refine (DelF_any a1 run L c1 w.heap.size n w1 HRL.out hO1.rd ((hb1.cell (p := ⟨w.heap.size, 0, none⟩) (by show w.heap.size < W0.heap.size; omega)).trans HCB.out) hLn HALL.out).mono ?_; rintro e w' ⟨rfl, hw'⟩; have hw2 := hw'.symm; clear hw'; subst hw2))
 have hcB1 : w1.cell? ⟨w.heap.size, 0, none⟩ = some (.int .i64 n) := (hb1.cell (p := ⟨w.heap.size, 0, none⟩) (by show w.heap.size < W0.heap.size; omega)).trans HCB.out
 obtain ⟨G1, hG1, _, hG1l, x0, _, hcc1, hcc2⟩ := hO1.at 0 (by rw [ints_len, HRL.out]; exact hp)
 subst hG1
 obtain ⟨G1', hG1', _, _, x1, _, _, _⟩ := hO1.at Lm (by rw [ints_len, HRL.out]; have := HLM.out; omega)
 cases hG1'
 rw [ith_ints, HA0.out] at x0
 rw [ith_ints, HB0.out] at x1
 rw [ints_len, HRL.out] at hcc1
 have hwr : IntKind.i64.wrap ((L : Int) - 1) = (Lm : Int) := by have := HLM.out; rw [IntKind.wrap_i64]; omega
 have gL0 : (0 : Int) ≤ (Lm : Int) := by omega
 have gL1 : (Lm : Int) < (L : Int) := by have := HLM.out; omega
 have gL2 : (0 : Int) < (L : Int) := by omega
 have hbC1 : Below w.heap.size w w1 := hb00.trans (hb1.mono (by omega))
 have hsz1 : w.heap.size < w1.heap.size := by have := hb1.size; omega
 have HB1 := Lib.hid hbC1
 clear hbC1 hb00 hb1 hz0
 go_cut [12, 13] (fun v12 v13 wx => v12 = .int .i64 (a0 : Nat) ∧ v13 = .int .i64 (b0 : Nat) ∧ Below w1.heap.size w1 wx)
 case first =>
  clear hcB1
  go_quiet (fail)
  go_wp2_with (fail)
  go_meet
  exact ⟨rfl, rfl, bl_drewN (Below.refl _ _) _⟩
 case rest =>
 obtain ⟨rfl, rfl, hbw⟩ := hcut
 obtain ⟨V, hV⟩ : ∃ V, V = wc := ⟨_, rfl⟩
 subst hV
 have HBC : Hid (Below w.heap.size w V) := Lib.hid (HB1.out.trans (hbw.mono (by omega)))
 have hcC : V.cell? ⟨w.heap.size, 0, none⟩ = some (.int .i64 n) := (hbw.cell (p := ⟨w.heap.size, 0, none⟩) hsz1).trans hcB1
 have hszC : w.heap.size < V.heap.size := by have := hbw.size; omega
 clear hbw hcB1 x0 x1 hwr hsz1 hO1 gL0 gL1 gL2
 go_upto_block 0 with (fail)
 go_cut [14] (fun v wx => v = .int .u8 (A : Nat) ∧ wx = V)
 case first =>
  go_wp2_with (fail)
  go_loopw [14, 16] (fun u14 u16 wx => ∃ (k : Nat) (z : Int), u14 = .int .u8 (base : Nat) ∧ u16 = .int .i64 z ∧ z + 1 = k ∧ k ≤ a0 ∧ aheadL ds ls base k = A ∧ wx = V) (fun _ c _ => (intOf c + 1).toNat)
  case atStart => exact ⟨a0, (a0 : Int) - 1, rfl, by go_num, by omega, Nat.le_refl _, HA.out, rfl⟩
  case round =>
   obtain ⟨k, z, rfl, rfl, hzk, hka, hF, hwx⟩ := hrel
   have hwx' := hwx.symm
   clear hwx
   subst hwx'
   cases k with
   | zero =>
     have hz : z = -1 := by omega
     subst hz
     rw [aheadL] at hF
     clear hzk
     go_wp2_with (fail)
     go_meet
     exact ⟨by rw [hF], rfl⟩
   | succ k =>
     have hz : z = (k : Int) := by omega
     subst hz
     rw [aheadL] at hF
     clear hzk
     obtain ⟨G, o, hGa, hGl, hGc⟩ := hd.at HBC.out k (by have := HL.out; omega)
     subst hGa
     obtain ⟨G2, o2, hGb, hGl2, hGc2⟩ := hls.at HBC.out k (by have := HLL.out; rw [ints_len]; omega)
     subst hGb
     rw [ith_ints] at hGc2
     obtain ⟨y, hy⟩ : ∃ y, ith ds k = y := ⟨_, rfl⟩
     rw [hy] at hGc hF
     obtain ⟨d, hd'⟩ : ∃ d, lkn y = d := ⟨_, rfl⟩
     have HD : Hid (∀ W, Calls Tryz.prog 124 #[.int .i8 y] W fun e w' => e = .returned (.int .i8 d) ∧ W = w') := Lib.hid fun W => by rw [← hd']; exact lknown_any y W
     obtain ⟨lb, hlb⟩ : ∃ lb, leftB d = lb := ⟨_, rfl⟩
     have HLB : Hid (∀ W, Calls Tryz.prog 152 #[.int .i8 d] W fun e w' => e = .returned (.bool lb) ∧ W = w') := Lib.hid fun W => by rw [← hlb]; exact lleft_any d W
     rw [hd'] at hF
     rw [hlb] at hF
     obtain ⟨lv, hlv'⟩ : ∃ lv, ls.getD k 0 = lv := ⟨_, rfl⟩
     rw [hlv'] at hGc2 hF
     have HF := Lib.hid hF
     clear hy hd' hlb hlv' hF
     have gk0 : (0 : Int) ≤ (k : Int) := by omega
     have gk1 : (k : Int) < (n : Int) := by omega
     by_cases h10 : d = 10
     ·subst h10
      have e := HF.out
      rw [if_pos rfl] at e
      have HE := Lib.hid e
      clear e
      go_wp2_with (go_at_call 124; refine (HD.out _).mono ?_; rintro e w' ⟨rfl, hw'⟩; subst hw')
      go_meet
      exact ⟨by rw [HE.out], rfl⟩
     ·have c10 : (d == 10) = false := by simpa using h10
      have c10' : (d != 10) = true := by simpa using h10
      have e := HF.out
      rw [if_neg h10] at e
      have HE := Lib.hid e
      clear e h10
      cases lb with
      | true =>
        go_wp2_with (first | (go_at_call 124; refine (HD.out _).mono ?_; rintro e w' ⟨rfl, hw'⟩; subst hw') | (go_at_call 152; refine (HLB.out _).mono ?_; rintro e w' ⟨rfl, hw'⟩; subst hw'))
        go_roundw
        case rel => exact ⟨k, (k : Int) - 1, rfl, by go_num, by omega, by omega, by have := HE.out; rwa [if_pos trivial] at this, trivial⟩
        case measure => simp [intOf]
      | false =>
        go_wp2_with (first | (go_at_call 124; refine (HD.out _).mono ?_; rintro e w' ⟨rfl, hw'⟩; subst hw') | (go_at_call 152; refine (HLB.out _).mono ?_; rintro e w' ⟨rfl, hw'⟩; subst hw'))
        go_meet
        exact ⟨by have := HE.out; rw [if_neg (by decide)] at this; rw [this], rfl⟩
 case rest =>
 obtain ⟨rfl, hwx⟩ := hcut
 have hwx' := hwx.symm
 clear hwx
 subst hwx'
 obtain ⟨G, o, hGa, hGl, hGcb⟩ := hd.at HBC.out b0 (by have := HL.out; omega)
 subst hGa
 obtain ⟨yb, hyb⟩ : ∃ yb, ith ds b0 = yb := ⟨_, rfl⟩
 rw [hyb] at hGcb
 obtain ⟨db, hdb⟩ : ∃ db, lkn yb = db := ⟨_, rfl⟩
 have HDB : Hid (∀ W, Calls Tryz.prog 124 #[.int .i8 yb] W fun e w' => e = .returned (.int .i8 db) ∧ W = w') := Lib.hid fun W => by rw [← hdb]; exact lknown_any yb W
 obtain ⟨ob, hob⟩ : ∃ ob, opensB db = ob := ⟨_, rfl⟩
 have HOB : Hid (∀ W, Calls Tryz.prog 144 #[.int .i8 db] W fun e w' => e = .returned (.bool ob) ∧ W = w') := Lib.hid fun W => by rw [← hob]; exact lopens_any db W
 have HPA := Lib.hid (LPairs_any (some ⟨G, o, none⟩) ds n cap V HL.out (hd.below HBC.out) hn)
 unfold LPairsPost at HPA
 obtain ⟨pb, hpb⟩ : ∃ pb, ith (pairsI ds) b0 = pb := ⟨_, rfl⟩
 obtain ⟨go, hgo⟩ : ∃ go, (!ob || decide (0 ≤ pb)) = go := ⟨_, rfl⟩
 have hBH := HBH.out
 unfold behindG at hBH
 rw [hyb, hdb, hob, hpb] at hBH
 have HBH2 : Hid ((if go = true ∧ db ≠ 10 then behindL ds ls base (n - (b0 + 1)) (b0 + 1) else base) = Bh) := Lib.hid (by
  rw [← hBH, ← hgo]
  have e : ((!ob || decide (0 ≤ pb)) = true ∧ db ≠ 10) ↔ ((ob = false ∨ 0 ≤ pb) ∧ db ≠ 10) := by simp
  by_cases h : (ob = false ∨ 0 ≤ pb) ∧ db ≠ 10
  ·rw [if_pos h, if_pos (e.2 h)]
  ·rw [if_neg h, if_neg (fun h' => h (e.1 h'))])
 have HGO := Lib.hid hgo
 have gb0 : (0 : Int) ≤ (b0 : Int) := by omega
 have gb1 : (b0 : Int) < (n : Int) := by omega
 have gn0 : (n : Int) ≤ (cap : Int) := by omega
 clear hyb hdb hob hBH hgo
 go_upto_region 12 with (fail)
 go_cut [88] (fun t wx => t = .bool go ∧ Below V.heap.size V wx)
 case first =>
  cases ob with
  | false =>
    go_wp2_with (first | (go_at_call 124; refine (HDB.out _).mono ?_; rintro e w' ⟨rfl, hw'⟩; subst hw') | (go_at_call 144; refine (HOB.out _).mono ?_; rintro e w' ⟨rfl, hw'⟩; subst hw'))
    go_meet
    exact ⟨by rw [← HGO.out]; rfl, Below.refl _ _⟩
  | true =>
    go_wp2_with (first | (go_at_call 124; refine (HDB.out _).mono ?_; rintro e w' ⟨rfl, hw'⟩; subst hw') | (go_at_call 144; refine (HOB.out _).mono ?_; rintro e w' ⟨rfl, hw'⟩; subst hw') | (go_at_call 151; refine HPA.out.mono ?_; rintro e w3 ⟨rfl, hpl, hO3, hb3⟩; obtain ⟨_, hG3, _, _, hx3, _⟩ := OutAt.at hO3 b0 (by rw [hpl]; omega); cases hG3; rw [hpb] at hx3; clear hpl hO3))
    go_meet
    exact ⟨by rw [← HGO.out]; rfl, hb3⟩
 case rest =>
 obtain ⟨rfl, hbw⟩ := hcut
 obtain ⟨U, hU⟩ : ∃ U, U = wc := ⟨_, rfl⟩
 subst hU
 have HBU : Hid (Below w.heap.size w U) := Lib.hid (HBC.out.trans (hbw.mono (by omega)))
 have hcU : U.cell? ⟨w.heap.size, 0, none⟩ = some (.int .i64 n) := (hbw.cell (p := ⟨w.heap.size, 0, none⟩) hszC).trans hcC
 have hGcU : U.cell? ⟨G, o + b0, none⟩ = some (.int .i8 yb) := (hbw.cell (p := ⟨G, o + b0, none⟩) (by show G < V.heap.size; omega)).trans hGcb
 clear hbw hcC hGcb HPA HOB hpb HBC
 go_upto_if 88 with (fail)
 go_cut [15] (fun v wx => v = .int .u8 (Bh : Nat) ∧ wx = U)
 case first =>
  cases go with
  | false =>
    have e := HBH2.out
    rw [if_neg (fun h => by simp at h)] at e
    have HE := Lib.hid e
    clear e
    go_wp2_with (fail)
    go_meet
    exact ⟨by rw [HE.out], rfl⟩
  | true =>
    have HE : Hid ((if db = 10 then base else behindL ds ls base (n - (b0 + 1)) (b0 + 1)) = Bh) := Lib.hid (by
     rw [← HBH2.out]
     by_cases h : db = 10
     ·rw [if_pos h, if_neg (fun h' => h'.2 h)]
     ·rw [if_neg h, if_pos ⟨rfl, h⟩])
    go_upto_block 2 with (fail)
    go_wp2_with (fail)
    go_loopw [15, 17] (fun u15 u17 wx => ∃ j m : Nat, u15 = .int .u8 (base : Nat) ∧ u17 = .int .i64 (j : Nat) ∧ j + m = n ∧ (if db = 10 then base else behindL ds ls base m j) = Bh ∧ wx = U) (fun _ c _ => n - (intOf c).toNat)
    case atStart => exact ⟨b0 + 1, n - (b0 + 1), rfl, by go_num, by omega, HE.out, rfl⟩
    case round =>
     obtain ⟨j, m, rfl, rfl, hjm, hF0, hwx⟩ := hrel
     have hwx' := hwx.symm
     clear hwx
     subst hwx'
     cases m with
     | zero =>
       have hjn : j = n := by omega
       rw [behindL] at hF0
       have HF := Lib.hid hF0
       subst hjn
       clear hF0 hjm
       go_wp2_with (go_at_call 124; refine (HDB.out _).mono ?_; rintro e w' ⟨rfl, hw'⟩; subst hw')
       go_meet
       exact ⟨by have := HF.out; rw [ite_self] at this; rw [this], rfl⟩
     | succ m =>
       have hjn : j < n := by omega
       by_cases h10 : db = 10
       ·subst h10
        rw [if_pos rfl] at hF0
        have HF := Lib.hid hF0
        clear hF0
        go_wp2_with (go_at_call 124; refine (HDB.out _).mono ?_; rintro e w' ⟨rfl, hw'⟩; subst hw')
        go_meet
        exact ⟨by rw [HF.out], rfl⟩
       ·have c10 : (db == 10) = false := by simpa using h10
        have c10' : (db != 10) = true := by simpa using h10
        rw [if_neg h10] at hF0
        have hF := hF0
        rw [behindL] at hF
        clear hF0
        obtain ⟨G4, o4, hGa, hGl4, hGc⟩ := hd.at HBU.out j (by have := HL.out; omega)
        cases hGa
        obtain ⟨G2, o2, hGb, hGl2, hGc2⟩ := hls.at HBU.out j (by have := HLL.out; rw [ints_len]; omega)
        subst hGb
        rw [ith_ints] at hGc2
        obtain ⟨y, hy⟩ : ∃ y, ith ds j = y := ⟨_, rfl⟩
        rw [hy] at hGc hF
        obtain ⟨d, hd'⟩ : ∃ d, lkn y = d := ⟨_, rfl⟩
        have HD : Hid (∀ W, Calls Tryz.prog 124 #[.int .i8 y] W fun e w' => e = .returned (.int .i8 d) ∧ W = w') := Lib.hid fun W => by rw [← hd']; exact lknown_any y W
        obtain ⟨lb, hlb⟩ : ∃ lb, leftB d = lb := ⟨_, rfl⟩
        have HLB : Hid (∀ W, Calls Tryz.prog 152 #[.int .i8 d] W fun e w' => e = .returned (.bool lb) ∧ W = w') := Lib.hid fun W => by rw [← hlb]; exact lleft_any d W
        rw [hd'] at hF
        rw [hlb] at hF
        obtain ⟨lv, hlv'⟩ : ∃ lv, ls.getD j 0 = lv := ⟨_, rfl⟩
        rw [hlv'] at hGc2 hF
        have HF := Lib.hid hF
        clear hy hd' hlb hlv' hF
        have gk0 : (0 : Int) ≤ (j : Int) := by omega
        have gk1 : (j : Int) < (n : Int) := by omega
        go_upto_block 3 with (go_at_call 124; refine (HDB.out _).mono ?_; rintro e w' ⟨rfl, hw'⟩; subst hw')
        cases lb with
        | true =>
          go_wp2_with (first | (go_at_call 124; refine (HD.out _).mono ?_; rintro e w' ⟨rfl, hw'⟩; subst hw') | (go_at_call 152; refine (HLB.out _).mono ?_; rintro e w' ⟨rfl, hw'⟩; subst hw'))
          go_roundw
          case rel => exact ⟨j + 1, m, rfl, by go_num, by omega, by rw [if_neg h10]; have := HF.out; rwa [if_pos trivial] at this, trivial⟩
          case measure => simp [intOf]; omega
        | false =>
          go_wp2_with (first | (go_at_call 124; refine (HD.out _).mono ?_; rintro e w' ⟨rfl, hw'⟩; subst hw') | (go_at_call 152; refine (HLB.out _).mono ?_; rintro e w' ⟨rfl, hw'⟩; subst hw'))
          go_meet
          exact ⟨by have := HF.out; rw [if_neg (by decide)] at this; rw [this], rfl⟩
 case rest =>
 obtain ⟨rfl, hwx⟩ := hcut
 have hwx' := hwx.symm
 clear hwx
 subst hwx'
 go_upto_region 18 with (fail)
 obtain ⟨G2, o2, hGb, hGl2, hxa⟩ := hls.at HBU.out a0 (by have := HLL.out; rw [ints_len]; omega)
 subst hGb
 obtain ⟨G3, o3, hGb, hGl3, hxb⟩ := hls.at HBU.out b0 (by have := HLL.out; rw [ints_len]; omega)
 cases hGb
 rw [ith_ints] at hxa hxb
 rw [HXA.out] at hxa
 rw [HXB.out] at hxb
 have hmx1 := HM1.out
 have hmx2 := HM2.out
 have hb1 := HQ1.out
 have hb2 := HQ2.out
 have ga0 : (0 : Int) ≤ (a0 : Int) := by omega
 have ga1 : (a0 : Int) < (n : Int) := by omega
 clear hcU hGcU
 go_quiet (fail)
 go_wp2_with (fail)
 go_ret2
 exact ⟨rfl, bl_drewN HBU.out _⟩
end
end Go.Proofs.YtlbclfmbejjneaaGreatDoor
