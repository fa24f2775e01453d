/- Part 39 of the proof (merged by a program out of the texts AddW, SortW): lemmas of no further condition than each states. -/
import Derived.Test.YtlbclfmbejjneaaGreatDoorJ38
namespace Go.Proofs.YtlbclfmbejjneaaGreatDoor
set_option linter.unusedVariables false
set_option linter.unusedSimpArgs false
section
open Go.RowKit Go.Proofs Go.Shelf
attribute [local go_sem] Oper.semAt_some
def stE : Enc St := ⟨fun c => [.int .i64 c.a, .bool c.back, .int .i64 (-1), .int .i64 c.x], 4, fun _ => rfl⟩
theorem Tryz.info_stop : (Tryz.prog.info? 86).map (fun i => (i.zero, i.size, i.bytes)) = some (some (.agg #[.int .i64 0, .bool false, .int .i64 0, .int .i64 0]), 4, 32) := by kernel_rfl
structure AdS (w : World) (S0 b : Nat) (cut : Bool) (M : List St) (W : World) : Prop where
 bw : W.heap[S0]? = some (.cells #[.pointer (some ⟨b, 0, none⟩)] 69 (0, 0))
 bc : W.heap[S0 + 2]? = some (.cells #[.bool cut] 4 (0, 0))
 row : ∃ a c, W.heap[S0 + 1]? = some (.cells #[.slice a M.length c] 83 (0, 0)) ∧ OwnS stE 86 W (S0 + 3) (.slice a M.length c) M
 bel : Below S0 w W
section
variable {w W W' : World} {S0 b : Nat} {cut : Bool} {M : List St}
theorem AdS.below (h : AdS w S0 b cut M W) (hb : Below W.heap.size W W') : AdS w S0 b cut M W' := by
 have h0 := (Array.getElem?_eq_some_iff.1 h.bw).1
 have h2 := (Array.getElem?_eq_some_iff.1 h.bc).1
 obtain ⟨a, c, h3, h4⟩ := h.row
 exact ⟨(hb.block _ h0).trans h.bw, (hb.block _ h2).trans h.bc, ⟨a, c, (hb.block _ (by omega)).trans h3, h4.keep hb⟩, h.bel.trans (hb.mono (by omega))⟩
theorem AdS.drew (h : AdS w S0 b cut M W) : AdS w S0 b cut M W.drew := ⟨h.bw, h.bc, h.row, h.bel.drew⟩
theorem AdS.drewN (h : AdS w S0 b cut M W) (n : Nat) : AdS w S0 b cut M (W.drewN n) := ⟨h.bw, h.bc, h.row, bl_drewN h.bel n⟩
end
theorem AdS.app {w W : World} {S0 b : Nat} {cut : Bool} {M : List St} (h : AdS w S0 b cut M W) {a : Option Addr} {c : Nat} (hr : W.heap[S0 + 1]? = some (.cells #[.slice a M.length c] 83 (0, 0))) (ho : OwnS stE 86 W (S0 + 3) (.slice a M.length c) M)
 (st : St) {o : Obj} {v' : Value} {w8 : World} (hg : (W.alloc o).grownBy w8 (Value.slice a M.length c).ownBlock) (ho8 : w8.ownsRow (S0 + 3) 86 4 v' (M.length + 1) (M.flatMap stE.enc ++ stE.enc st)) :
 w8.heap[S0 + 1]? = some (.cells #[.slice a M.length c] 83 (0, 0)) ∧ AdS w S0 b cut (M ++ [st]) (w8.setCell ⟨S0 + 1, 0, none⟩ v') := by
 have hol := World.ownsRow.lt ho
 have h0 := (Array.getElem?_eq_some_iff.1 h.bw).1
 have h2 := (Array.getElem?_eq_some_iff.1 h.bc).1
 have hsz : (W.alloc o).heap.size = W.heap.size + 1 := by rw [World.size_alloc]
 have hba : Below W.heap.size W (W.alloc o) := (Below.refl _ _).alloc (Nat.le_refl _) o
 have key : ∀ k, k < S0 + 3 → k < W.heap.size → w8.heap[k]? = W.heap[k]? := fun k hk hl =>
  (hg.block k (by omega) (fun e => by have := (hol k e.symm).1; omega)).trans (hba.block k hl)
 obtain ⟨a', c', hv', _, _⟩ := own_slice ho8
 subst hv'
 have r8 := (key (S0 + 1) (by omega) (by omega)).trans hr
 refine ⟨r8, ⟨box_other ((key S0 (by omega) h0).trans h.bw) (by omega), box_other ((key (S0 + 2) (by omega) h2).trans h.bc) (by omega), ⟨a', c', ?_, ?_⟩, ?_⟩⟩
 ·have h1 := set_at (i := 0) r8 (.slice a' (M.length + 1) c')
  rw [List.length_append]
  exact h1
 ·have h1 : OwnS stE 86 w8 (S0 + 3) (.slice a' (M ++ [st]).length c') (M ++ [st]) := by
   unfold OwnS
   rw [List.length_append, List.flatMap_append, List.flatMap_singleton]
   exact ho8
  exact h1.other (fun g hg => by have := (World.ownsRow.lt h1 g hg).1; omega)
 ·exact ((h.bel.alloc (by omega) o).grown hg (by omega) (fun k hk => by have := (hol k hk).1; omega)).setCell (p := ⟨S0 + 1, 0, none⟩) (show S0 ≤ S0 + 1 by omega) _
set_option maxRecDepth 100000 in
set_option maxHeartbeats 2000000 in
theorem add_any (w : World) (S0 b : Nat) (R : LaidR) (cut : Bool) (M : List St) (i p : Nat) (hS0 : w.heap.size = S0) (hL : LaidW w b R) (hi : i ≤ R.l.length) (hbs : R.base < 256) (hlv : ∀ p ∈ R.l, p.level < 256) (hn : R.l.length ≤ 2097152) (hM : M.length ≤ 8388608) (W : World) (h : AdS w S0 b cut M W) :
 Calls Tryz.prog 67 #[.int .i64 i, .int .i64 p, .pointer (some ⟨S0, 0, none⟩), .pointer (some ⟨S0 + 2, 0, none⟩), .pointer (some ⟨S0 + 1, 0, none⟩)] W fun e w' => e = .returned (.tuple #[]) ∧ AdS w S0 b cut (M ++ stopAt R cut i p) w' := by
 obtain ⟨i5, hi5, hz5, ha5, hby5⟩ := info_parts (Tryz.info_stop)
 obtain ⟨x, hx⟩ : ∃ x, edgeI R i false = x := ⟨_, rfl⟩
 obtain ⟨y, hy⟩ : ∃ y, edgeI R i true = y := ⟨_, rfl⟩
 have HLD : Hid (∀ W, AdS w S0 b cut M W → LaidW W b R) := Lib.hid fun W h => hL.below (hS0 ▸ h.bel)
 have HE : Hid (∀ W k, AdS w S0 b cut M W → Calls Tryz.prog 41 #[.pointer (some ⟨b, 0, none⟩), .int .i64 i, .bool k] W fun e w' => e = .returned (.int .i64 (edgeI R i k)) ∧ AdS w S0 b cut M w') :=
  Lib.hid fun W k h => (rEdge_any b R i k W (hL.below (hS0 ▸ h.bel)) hi hbs hlv hn).mono fun e w' ⟨h1, h2⟩ => ⟨h1, h.below h2⟩
 have HEF : Hid (∀ W, AdS w S0 b cut M W → Calls Tryz.prog 41 #[.pointer (some ⟨b, 0, none⟩), .int .i64 i, .bool false] W fun e w' => e = .returned (.int .i64 x) ∧ AdS w S0 b cut M w') := Lib.hid fun W h => hx ▸ HE.out W false h
 have HET : Hid (∀ W, AdS w S0 b cut M W → Calls Tryz.prog 41 #[.pointer (some ⟨b, 0, none⟩), .int .i64 i, .bool true] W fun e w' => e = .returned (.int .i64 y) ∧ AdS w S0 b cut M w') := Lib.hid fun W h => hy ▸ HE.out W true h
 have hst : stopAt R cut i p = (if hasA R cut p = true then [⟨p, false, x⟩] else []) ++ (if (decide (R.fr < p) && (decide (x ≠ y) || (cut && decide (p = R.tt)))) = true then [⟨p, true, y⟩] else []) := by
  unfold stopAt hasB
  rw [hx, hy]
 have HST := Lib.hid hst
 have HKB : Hid (∀ W, AdS w S0 b cut M W → W.cell? ⟨S0, 0, none⟩ = some (.pointer (some ⟨b, 0, none⟩)) ∧ AdS w S0 b cut M W) := Lib.hid fun W h => ⟨by simp [World.cell?, h.bw], h⟩
 clear hst HE hx hy
 have HW := Lib.hid h
 obtain ⟨k0, hW⟩ := HKB.out W h
 clear h
 go_enter Tryz.func67, Tryz.ntmps67
 go_upto_region 0 with (fail)
 obtain ⟨S, hSi, hSo⟩ : ∃ S : World → Prop, (∀ W : World, W.cell? ⟨S0, 0, none⟩ = some (.pointer (some ⟨b, 0, none⟩)) → S W) ∧ (∀ W : World, S W → W.cell? ⟨S0, 0, none⟩ = some (.pointer (some ⟨b, 0, none⟩))) := ⟨fun W => W.cell? ⟨S0, 0, none⟩ = some (.pointer (some ⟨b, 0, none⟩)), fun _ h => h, fun _ h => h⟩
 have HSi := Lib.hid hSi
 have hne : Nonempty (WIn S) := ⟨⟨_, hSi _ k0⟩⟩
 have kp_0 : ∀ q : WIn S, q.w.cell? ⟨S0, 0, none⟩ = some (.pointer (some ⟨b, 0, none⟩)) := fun q => hSo _ q.h
 clear hSi hSo
 refine wp_region_segP S [([0, 1, 3, 4], 2), ([], 5)] [6, 7] (by kernel_rfl) (by kernel_rfl) (HSi.out _ k0) ?_
 simp only [segHP, opsAt, List.filterMap_cons, List.filterMap_nil, List.getElem?_toArray, List.getElem?_cons_zero, List.getElem?_cons_succ]
 show wpQuiet _ _ _ _ [_, _, _, _] _
 repeat (go_big_quiet_step (fail))
 refine wpQuiet_nil ?_
 intro K hK
 have HKK := Lib.hid hK
 have HC1 := Lib.hid (HEF.out W.drew hW.drew)
 clear hK
 show wpList _ _ _ [_] _ _
 go_wp2_with (go_at_call 41; refine HC1.out.mono ?_; rintro e w5 ⟨rfl, hS5⟩)
 have k5 := (HKB.out w5 hS5).1
 have HC2 := Lib.hid (HET.out w5 hS5)
 refine HKK.out _ _ (HSi.out _ k5) ?_
 clear HKK HC1 hS5
 show wpQuiet _ _ _ _ [] _
 refine wpQuiet_nil ?_
 intro K hK
 have HKK := Lib.hid hK
 clear hK
 show wpList _ _ _ [_] _ _
 go_wp2_with (go_at_call 41; refine HC2.out.mono ?_; rintro e w6 ⟨rfl, hS6⟩)
 have k6 := (HKB.out w6 hS6).1
 have HS6 := Lib.hid hS6
 refine HKK.out _ _ (HSi.out _ k6) ?_
 clear HKK HC2 hS6 HSi
 show wpQuiet _ _ _ _ [_, _] _
 repeat (go_big_quiet_step (fail))
 refine wpQuiet_nil ?_
 refine NoPanic.normal ?_
 clear kp_0 hne k5 k6 k0 hW HW HEF HET HKB
 obtain ⟨u, hu⟩ : ∃ u, hasA R cut p = u := ⟨_, rfl⟩
 obtain ⟨v, hv⟩ : ∃ v, (decide (R.fr < p) && (decide (x ≠ y) || (cut && decide (p = R.tt)))) = v := ⟨_, rfl⟩
 rw [hu, hv] at HST
 go_upto_region 1 with (fail)
 go_cut [35] (fun c wx => c = .bool u ∧ AdS w S0 b cut M wx)
 case first =>
  obtain ⟨la, lcap, va, vc, g1, _, _⟩ := HLD.out w6 HS6.out
  have d2 := g1.cells.2.2.1
  have d3 := g1.cells.2.2.2.1
  have k0 : w6.cell? ⟨S0, 0, none⟩ = some (.pointer (some ⟨b, 0, none⟩)) := by simp [World.cell?, HS6.out.bw]
  have k2 : w6.cell? ⟨S0 + 2, 0, none⟩ = some (.bool cut) := by simp [World.cell?, HS6.out.bc]
  clear g1
  by_cases h1 : p < R.tt
  ·have hd1 : decide ((p : Int) < (R.tt : Int)) = true := decide_eq_true (by omega)
   have hu1 : u = true := by rw [← hu]; unfold hasA; rw [decide_eq_true h1]; rfl
   subst hu1
   go_quiet (fail)
   go_wp2_with (fail)
   go_meet
   exact ⟨rfl, HS6.out.drewN _⟩
  ·have hd1 : decide ((p : Int) < (R.tt : Int)) = false := decide_eq_false (by omega)
   cases cut with
   | false =>
     have hu1 : u = true := by rw [← hu]; unfold hasA; simp
     subst hu1
     go_quiet (fail)
     go_wp2_with (fail)
     go_meet
     exact ⟨rfl, HS6.out.drewN _⟩
   | true =>
     by_cases h3 : R.fr = R.tt
     ·have hd3 : ((R.fr : Int) == (R.tt : Int)) = true := by rw [beq_iff_eq]; omega
      have hu1 : u = true := by rw [← hu]; unfold hasA; rw [decide_eq_true h3]; simp
      subst hu1
      go_quiet (fail)
      go_wp2_with (fail)
      go_meet
      exact ⟨rfl, HS6.out.drewN _⟩
     ·have hd3 : ((R.fr : Int) == (R.tt : Int)) = false := by rw [beq_eq_false_iff_ne]; omega
      have hu1 : u = false := by rw [← hu]; unfold hasA; rw [decide_eq_false h3, decide_eq_false h1]; rfl
      subst hu1
      go_quiet (fail)
      go_wp2_with (fail)
      go_meet
      exact ⟨rfl, HS6.out.drewN _⟩
 case rest =>
  obtain ⟨rfl, hS7⟩ := hcut
  have HS7 := Lib.hid hS7
  have HU := Lib.hid hu
  have HV := Lib.hid hv
  clear hS7 HS6 hu hv
  obtain ⟨M1, hM1⟩ : ∃ M1, M ++ (if u = true then [(⟨p, false, x⟩ : St)] else []) = M1 := ⟨_, rfl⟩
  have hM1l : M1.length ≤ 8388609 := by rw [← hM1, List.length_append]; split <;> simp <;> omega
  go_upto_if 35 with (fail)
  go_cut [35] (fun _ wx => AdS w S0 b cut M1 wx)
  case first =>
   cases u with
   | true =>
     obtain ⟨a, c, r1, r2⟩ := HS7.out.row
     have k1 : wc.cell? ⟨S0 + 1, 0, none⟩ = some (.slice a M.length c) := by simp [World.cell?, r1]
     have hsz : S0 + 1 < wc.heap.size := (Array.getElem?_eq_some_iff.1 r1).1
     have R1 := Lib.hid r1
     have R2 := Lib.hid r2
     have hal := World.ownsRow.alloc r2 (.cells #[.int .i64 p, .bool false, .int .i64 (-1), .int .i64 x] 86)
     have HAL := Lib.hid hal
     have hbz : S0 + 3 ≤ wc.heap.size := by have := (Array.getElem?_eq_some_iff.1 HS7.out.bc).1; omega
     clear r1 r2 hal
     go_wp2_with (at_builtin; refine wpList_append_own_at _ rfl _ _ 83 rfl (S0 + 3) 86 i5 _ 4 32 Tryz.underlying83 hi5 hz5 ha5 hby5 rfl (by decide) _ M.length _ rfl HAL.out ⟨wc.heap.size, 0, none⟩ 1 1 [.int .i64 p, .bool false, .int .i64 (-1), .int .i64 x] rfl rfl (newS _ _ _) (by simp [Value.oneCell']) (by unfold maxLen; omega) (by omega) (by simp; omega) ?_; intro v' w8 ho8 hg8 _ _; obtain ⟨a', c', hv', _, _⟩ := own_slice ho8; subst hv'; obtain ⟨q1, hS8⟩ := HS7.out.app R1.out R2.out ⟨p, false, x⟩ hg8 ho8; have HS8 := Lib.hid hS8; have q0 : w8.cell? ⟨S0 + 1, 0, none⟩ = some (.slice a M.length c) := (by simp [World.cell?, q1]); have qf : w8.frozen? ⟨S0 + 1, 0, none⟩ = false := (by simp [World.frozen?, q1]); clear hS8 q1)
     go_meet
     rw [← hM1, if_pos trivial]
     exact HS8.out
   | false =>
     go_wp2_with (fail)
     go_meet
     rw [← hM1, if_neg (by decide), List.append_nil]
     exact HS7.out
  case rest =>
   have HS9 := Lib.hid hcut
   clear hcut HS7
   have HST2 : Hid (M ++ stopAt R cut i p = M1 ++ (if v = true then [(⟨p, true, y⟩ : St)] else [])) := Lib.hid (by rw [HST.out, ← hM1, List.append_assoc])
   clear hM1
   have HLD2 : LaidW wc b R := hL.below (hS0 ▸ HS9.out.bel)
   go_upto_region 3 with (fail)
   go_cut [64] (fun c wx => c = .bool v ∧ AdS w S0 b cut M1 wx)
   case first =>
    obtain ⟨la, lcap, va, vc, g1, _, _⟩ := HLD2
    have d2 := g1.cells.2.2.1
    have d3 := g1.cells.2.2.2.1
    have k0 : wc.cell? ⟨S0, 0, none⟩ = some (.pointer (some ⟨b, 0, none⟩)) := by simp [World.cell?, HS9.out.bw]
    have k2 : wc.cell? ⟨S0 + 2, 0, none⟩ = some (.bool cut) := by simp [World.cell?, HS9.out.bc]
    clear g1
    by_cases h1 : R.fr < p
    ·have hd1 : decide ((R.fr : Int) < (p : Int)) = true := decide_eq_true (by omega)
     by_cases h2 : x = y
     ·have hd2 : (x != y) = false := by simp [h2]
      have hd2' : (y != y) = false := by simp
      cases cut with
      | false =>
        have hv1 : v = false := by rw [← HV.out]; simp [h2]
        subst hv1
        subst h2
        go_wp2_with (fail)
        go_meet
        exact ⟨rfl, HS9.out⟩
      | true =>
        by_cases h3 : p = R.tt
        ·have hd3 : ((p : Int) == (R.tt : Int)) = true := by rw [beq_iff_eq]; omega
         have hv1 : v = true := by rw [← HV.out]; simp [h1, h3]; omega
         clear h3
         subst hv1
         subst h2
         go_wp2_with (fail)
         go_meet
         exact ⟨rfl, HS9.out⟩
        ·have hd3 : ((p : Int) == (R.tt : Int)) = false := by rw [beq_eq_false_iff_ne]; omega
         have hv1 : v = false := by rw [← HV.out]; simp [h2, h3]
         subst hv1
         subst h2
         go_wp2_with (fail)
         go_meet
         exact ⟨rfl, HS9.out⟩
     ·have hd2 : (x != y) = true := by simp [h2]
      have hv1 : v = true := by rw [← HV.out]; simp [h1, h2]
      subst hv1
      go_wp2_with (fail)
      go_meet
      exact ⟨rfl, HS9.out⟩
    ·have hd1 : decide ((R.fr : Int) < (p : Int)) = false := decide_eq_false (by omega)
     have hv1 : v = false := by rw [← HV.out]; simp [h1]
     subst hv1
     go_wp2_with (fail)
     go_meet
     exact ⟨rfl, HS9.out⟩
   case rest =>
    obtain ⟨rfl, hS7⟩ := hcut
    have HS7 := Lib.hid hS7
    clear hS7 HLD2 HS9 HV HU
    cases v with
    | true =>
      obtain ⟨a, c, r1, r2⟩ := HS7.out.row
      have k1 : wc.cell? ⟨S0 + 1, 0, none⟩ = some (.slice a M1.length c) := by simp [World.cell?, r1]
      have hsz : S0 + 1 < wc.heap.size := (Array.getElem?_eq_some_iff.1 r1).1
      have R1 := Lib.hid r1
      have R2 := Lib.hid r2
      have hal := World.ownsRow.alloc r2 (.cells #[.int .i64 p, .bool true, .int .i64 (-1), .int .i64 y] 86)
      have HAL := Lib.hid hal
      have hbz : S0 + 3 ≤ wc.heap.size := by have := (Array.getElem?_eq_some_iff.1 HS7.out.bc).1; omega
      clear r1 r2 hal
      go_wp2_with (at_builtin; refine wpList_append_own_at _ rfl _ _ 83 rfl (S0 + 3) 86 i5 _ 4 32 Tryz.underlying83 hi5 hz5 ha5 hby5 rfl (by decide) _ M1.length _ rfl HAL.out ⟨wc.heap.size, 0, none⟩ 1 1 [.int .i64 p, .bool true, .int .i64 (-1), .int .i64 y] rfl rfl (newS _ _ _) (by simp [Value.oneCell']) (by unfold maxLen; omega) (by omega) (by simp; omega) ?_; intro v' w8 ho8 hg8 _ _; obtain ⟨a', c', hv', _, _⟩ := own_slice ho8; subst hv'; obtain ⟨q1, hS8⟩ := HS7.out.app R1.out R2.out ⟨p, true, y⟩ hg8 ho8; have HS8 := Lib.hid hS8; have q0 : w8.cell? ⟨S0 + 1, 0, none⟩ = some (.slice a M1.length c) := (by simp [World.cell?, q1]); have qf : w8.frozen? ⟨S0 + 1, 0, none⟩ = false := (by simp [World.frozen?, q1]); clear hS8 q1)
      go_end0
      exact ⟨rfl, by rw [HST2.out, if_pos trivial]; exact HS8.out⟩
    | false =>
      go_wp2_with (fail)
      go_end0
      exact ⟨rfl, by rw [HST2.out, if_neg (by decide), List.append_nil]; exact HS7.out⟩
end
section
open Go.RowKit Go.Proofs Go.Shelf
attribute [local go_sem] Oper.semAt_some
def smallX (l : List St) : Prop := ∀ s ∈ l, -1099511627776 ≤ s.x ∧ s.x ≤ 1099511627776
theorem scmp_any (s t : St) (hs : -1099511627776 ≤ s.x ∧ s.x ≤ 1099511627776) (ht : -1099511627776 ≤ t.x ∧ t.x ≤ 1099511627776) (w : World) :
 Calls Tryz.prog 69 #[.agg #[.int .i64 s.a, .bool s.back, .int .i64 (-1), .int .i64 s.x], .agg #[.int .i64 t.a, .bool t.back, .int .i64 (-1), .int .i64 t.x]] w fun e w' => e = .returned (.int .i64 (s.x - t.x)) ∧ Below w.heap.size w w' := by
 have hw : IntKind.i64.wrap (s.x - t.x) = s.x - t.x := by rw [IntKind.wrap_i64]; omega
 have hb : Below w.heap.size w ((w.alloc (.cells #[.int .i64 s.a, .bool s.back, .int .i64 (-1), .int .i64 s.x] 86)).alloc (.cells #[.int .i64 t.a, .bool t.back, .int .i64 (-1), .int .i64 t.x] 86)) := ((Below.refl _ _).alloc (Nat.le_refl _) _).alloc (by simp) _
 go_enter Tryz.func69, Tryz.ntmps69
 go_wp2_with (fail)
 go_ret
 exact ⟨rfl, hb⟩
theorem swapL_small {l : List St} (h : smallX l) (j : Nat) (hj : j + 1 < l.length) : smallX (swapL l j) := fun s hs => by
 unfold swapL at hs
 rcases List.mem_or_eq_of_mem_set hs with hs | rfl
 ·rcases List.mem_or_eq_of_mem_set hs with hs | rfl
  ·exact h s hs
  ·rw [List.getD_eq_getElem?_getD, List.getElem?_eq_getElem (by omega)]; exact h _ (List.getElem_mem _)
 ·rw [List.getD_eq_getElem?_getD, List.getElem?_eq_getElem (by omega)]; exact h _ (List.getElem_mem _)
theorem insJ_small : ∀ (j : Nat) {l : List St}, smallX l → j < l.length → smallX (insJ l j)
 | 0, l, h, _ => h
 | j + 1, l, h, hj => by
   rw [insJ]
   split
   ·exact insJ_small j (swapL_small h j hj) (by rw [swapL_len]; omega)
   ·exact h
theorem st_cells {w : World} {base n G c : Nat} {l : List St} (hl : l.length = n) (hO : OwnS stE 86 w base (.slice (some ⟨G, 0, none⟩) n c) l) (i : Nat) (s : St) (hs : l[i]? = some s) :
 base ≤ G ∧ G < w.heap.size ∧ w.cell? ⟨G, i * 4, none⟩ = some (.int .i64 s.a) ∧ w.cell? ⟨G, i * 4 + 1, none⟩ = some (.bool s.back) ∧ w.cell? ⟨G, i * 4 + 2, none⟩ = some (.int .i64 (-1)) ∧ w.cell? ⟨G, i * 4 + 3, none⟩ = some (.int .i64 s.x) ∧ ∀ j, w.frozen? ⟨G, j, none⟩ = false := by
 subst hl
 obtain ⟨G', eG, h1, h2, hc, hf⟩ := hO.at i s hs
 cases eG
 exact ⟨h1, h2, hc 0 _ rfl, hc 1 _ rfl, hc 2 _ rfl, hc 3 _ rfl, hf⟩
theorem st_set {w : World} {base n G c : Nat} {l : List St} (hl : l.length = n) (hO : OwnS stE 86 w base (.slice (some ⟨G, 0, none⟩) n c) l) (i : Nat) (s t : St) (hs : l[i]? = some s) :
 OwnS stE 86 ((((w.setCell ⟨G, i * 4, none⟩ (.int .i64 t.a)).setCell ⟨G, i * 4 + 1, none⟩ (.bool t.back)).setCell ⟨G, i * 4 + 2, none⟩ (.int .i64 (-1))).setCell ⟨G, i * 4 + 3, none⟩ (.int .i64 t.x)) base (.slice (some ⟨G, 0, none⟩) n c) (l.set i t) := by
 subst hl
 have hil := (List.getElem?_eq_some_iff.1 hs).1
 have hg : ∀ z : St, (l.set i z)[i]? = some z := fun z => by rw [List.getElem?_set]; simp [hil]
 have h1 := OwnS.set (cap := c) hO i s ⟨t.a, s.back, s.x⟩ hs 0 (.int .i64 t.a) (by decide) rfl
 have h2 := OwnS.set (cap := c) h1 i _ ⟨t.a, t.back, s.x⟩ (hg _) 1 (.bool t.back) (by decide) rfl
 rw [List.set_set] at h2
 have h3 := OwnS.set (cap := c) h2 i _ ⟨t.a, t.back, s.x⟩ (hg _) 2 (.int .i64 (-1)) (by decide) rfl
 rw [List.set_set] at h3
 have h4 := OwnS.set (cap := c) h3 i _ t (hg _) 3 (.int .i64 t.x) (by decide) rfl
 rw [List.set_set, List.length_set] at h4
 exact h4
structure InS (w : World) (base G c n : Nat) (M : List St) (W : World) : Prop where
 own : OwnS stE 86 W base (.slice (some ⟨G, 0, none⟩) n c) M
 bel : Below base w W
 sz : base ≤ W.heap.size
theorem InS.below {w W W' : World} {base G c n : Nat} {M : List St} (h : InS w base G c n M W) (hb : Below W.heap.size W W') : InS w base G c n M W' := ⟨h.own.keep hb, h.bel.trans (hb.mono h.sz), Nat.le_trans h.sz hb.size⟩
theorem InS.drew {w W : World} {base G c n : Nat} {M : List St} (h : InS w base G c n M W) : InS w base G c n M W.drew := ⟨h.own, h.bel.drew, h.sz⟩
theorem InS.drewN {w W : World} {base G c n : Nat} {M : List St} (h : InS w base G c n M W) (k : Nat) : InS w base G c n M (W.drewN k) := ⟨h.own, bl_drewN h.bel k, h.sz⟩
theorem InS.swap {w W : World} {base G c n : Nat} {M : List St} (h : InS w base G c n M W) (hl : M.length = n) (j : Nat) (s t : St) (hs : M[j + 1]? = some s) (ht : M[j]? = some t) :
 InS w base G c n (swapL M j) ((((((((W.setCell ⟨G, (j + 1) * 4, none⟩ (.int .i64 t.a)).setCell ⟨G, (j + 1) * 4 + 1, none⟩ (.bool t.back)).setCell ⟨G, (j + 1) * 4 + 2, none⟩ (.int .i64 (-1))).setCell ⟨G, (j + 1) * 4 + 3, none⟩ (.int .i64 t.x)).setCell ⟨G, j * 4, none⟩ (.int .i64 s.a)).setCell ⟨G, j * 4 + 1, none⟩ (.bool s.back)).setCell ⟨G, j * 4 + 2, none⟩ (.int .i64 (-1))).setCell ⟨G, j * 4 + 3, none⟩ (.int .i64 s.x)) := by
 have h1 := st_set hl h.own (j + 1) s t hs
 have ht' : (M.set (j + 1) t)[j]? = some t := by rw [List.getElem?_set, if_neg (by omega)]; exact ht
 have h2 := st_set (by rw [List.length_set]; exact hl) h1 j t s ht'
 have hG := (World.ownsRow.lt h.own G rfl).1
 have e : swapL M j = (M.set (j + 1) t).set j s := by
  unfold swapL
  rw [List.getD_eq_getElem?_getD, List.getD_eq_getElem?_getD, hs, ht]
  rfl
 rw [e]
 refine ⟨h2, ?_, ?_⟩
 ·have key : ∀ {X : World} (k : Nat) (v : Value), Below base w X → Below base w (X.setCell ⟨G, k, none⟩ v) := fun k v hX => hX.setCell (p := ⟨G, k, none⟩) hG v
  exact key _ _ (key _ _ (key _ _ (key _ _ (key _ _ (key _ _ (key _ _ (key _ _ h.bel)))))))
 ·have := h.sz; simp; omega
set_option maxRecDepth 100000 in
set_option maxHeartbeats 4000000 in
theorem ins_any (G c n base : Nat) (l : List St) (hl : l.length = n) (hn : n ≤ 4194304) (hx : smallX l) (w : World) (hO : OwnS stE 86 w base (.slice (some ⟨G, 0, none⟩) n c) l) (hb : base ≤ w.heap.size) :
 Calls Tryz.prog 116 #[.slice (some ⟨G, 0, none⟩) n c, .int .i64 0, .int .i64 n, .func (.func 69) #[] #[]] w fun e w' => e = .returned (.tuple #[]) ∧
  OwnS stE 86 w' base (.slice (some ⟨G, 0, none⟩) n c) (sortJ (n - 1) 1 l) ∧ Below base w w' := by
 have HO := Lib.hid hO
 have HX := Lib.hid hx
 have HL := Lib.hid hl
 clear hO hx hl
 go_enter Tryz.func116, Tryz.ntmps116
 go_upto_block 0 with (fail)
 go_wp2_with (fail)
 go_loopw [8, 9] (fun u8 _ wx => ∃ (i : Nat) (M : List St), 1 ≤ i ∧ u8 = .int .i64 i ∧ i ≤ n + 1 ∧ M.length = n ∧ smallX M ∧ sortJ (n - i) i M = sortJ (n - 1) 1 l ∧ InS w base G c n M wx) (fun u8 _ _ => n - (intOf u8).toNat)
 case atStart => exact ⟨1, l, Nat.le_refl _, rfl, by omega, HL.out, HX.out, rfl, HO.out, Below.refl _ _, hb⟩
 case round =>
  obtain ⟨i, M, hi1, rfl, hin, hml, hmx, hsj, hS⟩ := hrel
  have HS := Lib.hid hS
  have HMX := Lib.hid hmx
  have HSJ := Lib.hid hsj
  clear hS hmx hsj HO HX
  by_cases hlt : i < n
  ·have hmi : n - i = (n - (i + 1)) + 1 := by omega
   have HSJ2 : Hid (sortJ (n - (i + 1)) (i + 1) (insJ M i) = sortJ (n - 1) 1 l) := Lib.hid (by rw [← HSJ.out, hmi, sortJ])
   have HIX : Hid (smallX (insJ M i)) := Lib.hid (insJ_small i HMX.out (by omega))
   have hwi : IntKind.i64.wrap ((i : Int) + 1) = (i : Int) + 1 := by rw [IntKind.wrap_i64]; omega
   go_upto_block 1 with (fail)
   go_cut [9] (fun _ wx => InS w base G c n (insJ M i) wx)
   case first =>
    go_wp2_with (fail)
    go_loopw [9] (fun u9 wx => ∃ (j : Nat) (N : List St), j ≤ i ∧ u9 = .int .i64 j ∧ N.length = n ∧ smallX N ∧ insJ N j = insJ M i ∧ InS w base G c n N wx) (fun u9 _ => (intOf u9).toNat)
    case atStart => exact ⟨i, M, Nat.le_refl _, rfl, hml, HMX.out, rfl, HS.out⟩
    case round =>
     obtain ⟨j, N, hj, rfl, hnl, hnx, hij, hS⟩ := hrel
     have HN := Lib.hid hS
     have HNX := Lib.hid hnx
     have HIJ := Lib.hid hij
     clear hS hnx hij HS
     cases j with
     | zero =>
       have hd1 : decide ((0 : Int) < ((0 : Nat) : Int)) = false := by decide
       go_upto_region 4 with (fail)
       go_quiet (fail)
       go_wp2_with (fail)
       go_meet
       rw [← HIJ.out]
       exact HN.out.drewN _
     | succ j =>
       obtain ⟨s, hs⟩ : ∃ s, N[j + 1]? = some s := ⟨_, List.getElem?_eq_getElem (by omega)⟩
       obtain ⟨t, ht⟩ : ∃ t, N[j]? = some t := ⟨_, List.getElem?_eq_getElem (by omega)⟩
       have hsx := HNX.out s (List.mem_of_getElem? hs)
       have htx := HNX.out t (List.mem_of_getElem? ht)
       have hins : insJ N (j + 1) = if s.x < t.x then insJ (swapL N j) j else N := by
        rw [insJ, List.getD_eq_getElem?_getD, List.getD_eq_getElem?_getD, hs, ht]
        rfl
       have HIN := Lib.hid hins
       have hwj : IntKind.i64.wrap (((j + 1 : Nat) : Int) - 1) = (j : Int) := by rw [IntKind.wrap_i64]; omega
       have hd1 : decide ((0 : Int) < ((j + 1 : Nat) : Int)) = true := decide_eq_true (by omega)
       have hg1 : (j : Int) + 1 < (n : Int) := by omega
       have hg2 : (j : Int) < (n : Int) := by omega
       have hg3 : ((j + 1 : Nat) : Int) < (n : Int) := by omega
       have hg4 : (0 : Int) ≤ (j : Int) + 1 := by omega
       have hd1' : decide ((0 : Int) < (j : Int) + 1) = true := decide_eq_true (by omega)
       have hwj' : IntKind.i64.wrap ((j : Int) + 1 - 1) = (j : Int) := by rw [IntKind.wrap_i64]; omega
       have htn : ((j : Int) + 1).toNat = j + 1 := by omega
       have hwk : IntKind.i64.wrap (j : Int) = (j : Int) := by rw [IntKind.wrap_i64]; omega
       have hg5 : (0 : Int) ≤ (j : Int) := by omega
       have HKC : Hid (∀ W, InS w base G c n N W → W.cell? ⟨G, (j + 1) * 4, none⟩ = some (.int .i64 s.a) ∧ W.cell? ⟨G, (j + 1) * 4 + 1, none⟩ = some (.bool s.back) ∧ W.cell? ⟨G, (j + 1) * 4 + 2, none⟩ = some (.int .i64 (-1)) ∧ W.cell? ⟨G, (j + 1) * 4 + 3, none⟩ = some (.int .i64 s.x) ∧
        W.cell? ⟨G, j * 4, none⟩ = some (.int .i64 t.a) ∧ W.cell? ⟨G, j * 4 + 1, none⟩ = some (.bool t.back) ∧ W.cell? ⟨G, j * 4 + 2, none⟩ = some (.int .i64 (-1)) ∧ W.cell? ⟨G, j * 4 + 3, none⟩ = some (.int .i64 t.x) ∧ InS w base G c n N W) := Lib.hid fun W h => by
        obtain ⟨_, _, a0, a1, a2, a3, _⟩ := st_cells hnl h.own (j + 1) s hs
        obtain ⟨_, _, b0, b1, b2, b3, _⟩ := st_cells hnl h.own j t ht
        exact ⟨a0, a1, a2, a3, b0, b1, b2, b3, h⟩
       have HCM : Hid (∀ W, InS w base G c n N W → Calls Tryz.prog 69 #[.agg #[.int .i64 s.a, .bool s.back, .int .i64 (-1), .int .i64 s.x], .agg #[.int .i64 t.a, .bool t.back, .int .i64 (-1), .int .i64 t.x]] W fun e w' => e = .returned (.int .i64 (s.x - t.x)) ∧ InS w base G c n N w') :=
        Lib.hid fun W h => (scmp_any s t hsx htx W).mono fun e w' ⟨h1, h2⟩ => ⟨h1, h.below h2⟩
       obtain ⟨a0, a1, a2, a3, b0, b1, b2, b3, hN⟩ := HKC.out wr HN.out
       have HSS := Lib.hid hs
       have HTT := Lib.hid ht
       clear hins hs ht HN
       go_upto_region 4 with (fail)
       go_region_held3 (fun W => W.cell? ⟨G, (j + 1) * 4, none⟩ = some (.int .i64 s.a) ∧ W.cell? ⟨G, (j + 1) * 4 + 1, none⟩ = some (.bool s.back) ∧ W.cell? ⟨G, (j + 1) * 4 + 2, none⟩ = some (.int .i64 (-1)) ∧ W.cell? ⟨G, (j + 1) * 4 + 3, none⟩ = some (.int .i64 s.x) ∧
        W.cell? ⟨G, j * 4, none⟩ = some (.int .i64 t.a) ∧ W.cell? ⟨G, j * 4 + 1, none⟩ = some (.bool t.back) ∧ W.cell? ⟨G, j * 4 + 2, none⟩ = some (.int .i64 (-1)) ∧ W.cell? ⟨G, j * 4 + 3, none⟩ = some (.int .i64 t.x) ∧ InS w base G c n N W)
        ((refine HKC.out _ ?_; (repeat (first | assumption | refine InS.drew ?_))))
        ((go_at_call 69; refine (HCM.out _ (by (repeat (first | assumption | refine InS.drew ?_)))).mono ?_; rintro e w5 ⟨rfl, hN5⟩))
       have HN5 := Lib.hid hN5
       clear a0 a1 a2 a3 b0 b1 b2 b3 hN hN5 HCM
       by_cases hlt2 : s.x < t.x
       ·have hd2 : decide (s.x - t.x < 0) = true := decide_eq_true (by omega)
        have hd3 : s.x - t.x < 0 := by omega
        have HIN2 : Hid (insJ N (j + 1) = insJ (swapL N j) j) := Lib.hid (by rw [HIN.out, if_pos hlt2])
        go_upto_region 6 with (fail)
        obtain ⟨a0, a1, a2, a3, b0, b1, b2, b3, _⟩ := HKC.out w5 HN5.out
        obtain ⟨_, _, _, _, _, _, hf⟩ := st_cells hnl HN5.out.own j t HTT.out
        have e0 := hf ((j + 1) * 4)
        have e1 := hf ((j + 1) * 4 + 1)
        have e2 := hf ((j + 1) * 4 + 2)
        have e3 := hf ((j + 1) * 4 + 3)
        have f0 := hf (j * 4)
        have f1 := hf (j * 4 + 1)
        have f2 := hf (j * 4 + 2)
        have f3 := hf (j * 4 + 3)
        have HSW := Lib.hid (HN5.out.swap hnl j s t HSS.out HTT.out)
        clear hf HKC
        go_region
        clear a0 a1 a2 a3 b0 b1 b2 b3 e0 e1 e2 e3 f0 f1 f2 f3
        go_wp2_with (fail)
        go_roundw
        case rel => exact ⟨j, swapL N j, by omega, by go_num, by rw [swapL_len]; exact hnl, swapL_small HNX.out j (by omega), by rw [← HIN2.out, HIJ.out], HSW.out.drew⟩
        case measure => simp [intOf]
       ·have hd2 : decide (s.x - t.x < 0) = false := decide_eq_false (by omega)
        have hd3 : ¬ s.x - t.x < 0 := by omega
        have HIN2 : Hid (insJ M i = N) := Lib.hid (by rw [← HIJ.out, HIN.out, if_neg hlt2])
        go_wp2_with (fail)
        go_meet
        rw [HIN2.out]
        exact HN5.out
   case rest =>
    have HS2 := Lib.hid hcut
    clear hcut HS
    go_wp2_with (fail)
    go_roundw
    case rel => exact ⟨i + 1, insJ M i, by omega, by go_num, by omega, by rw [insJ_len]; exact hml, HIX.out, HSJ2.out, HS2.out⟩
    case measure => simp [intOf]; omega
  ·have hfin : sortJ (n - 1) 1 l = M := by rw [← HSJ.out, show n - i = 0 by omega]; rfl
   go_wp2_with (fail)
   go_end0
   exact ⟨rfl, by rw [hfin]; exact HS.out.own, HS.out.bel⟩
set_option maxHeartbeats 1000000 in
theorem stable_any (G c n base : Nat) (l : List St) (hl : l.length = n) (hn : n < 20) (hx : smallX l) (w : World) (hO : OwnS stE 86 w base (.slice (some ⟨G, 0, none⟩) n c) l) (hb : base ≤ w.heap.size) :
 Calls Tryz.prog 94 #[.slice (some ⟨G, 0, none⟩) n c, .int .i64 n, .func (.func 69) #[] #[]] w fun e w' => e = .returned (.tuple #[]) ∧
  OwnS stE 86 w' base (.slice (some ⟨G, 0, none⟩) n c) (sortJ (n - 1) 1 l) ∧ Below base w w' := by
 have HI := Lib.hid (ins_any G c n base l hl (by omega) hx w hO hb)
 have h1 : ¬ (20 : Int) ≤ (n : Int) := by omega
 have h2 : ¬ (20 : Int) < (n : Int) := by omega
 clear hO hx hl
 go_enter Tryz.func94, Tryz.ntmps94
 go_wp2_with (fail)
 go_loopw [7, 8] (fun u7 u8 wx => u7 = .int .i64 0 ∧ u8 = .int .i64 20 ∧ wx = w) (fun _ _ _ => 0)
 case atStart => exact ⟨rfl, rfl, rfl⟩
 case round =>
  obtain ⟨rfl, rfl, rfl⟩ := hrel
  go_wp2_with (go_at_call 116; refine HI.out.mono ?_; rintro e w5 ⟨rfl, hO5, hb5⟩)
  have HO5 := Lib.hid hO5
  have HB5 := Lib.hid hb5
  clear hO5 hb5 HI
  go_loopw [6, 7, 8, 9] (fun u6 _ _ _ wx => u6 = .int .i64 20 ∧ wx = w5) (fun _ _ _ _ _ => 0)
  case atStart => exact ⟨rfl, rfl⟩
  case round =>
   obtain ⟨rfl, rfl⟩ := hrel
   go_wp2_with (fail)
   go_end0
   exact ⟨rfl, HO5.out, HB5.out⟩
set_option maxHeartbeats 1000000 in
theorem sortStable_any (G c n base : Nat) (l : List St) (hl : l.length = n) (hn : n < 20) (hx : smallX l) (w : World) (hO : OwnS stE 86 w base (.slice (some ⟨G, 0, none⟩) n c) l) (hb : base ≤ w.heap.size) :
 Calls Tryz.prog 68 #[.slice (some ⟨G, 0, none⟩) n c, .func (.func 69) #[] #[]] w fun e w' => e = .returned (.tuple #[]) ∧
  OwnS stE 86 w' base (.slice (some ⟨G, 0, none⟩) n c) (sortJ (n - 1) 1 l) ∧ Below base w w' := by
 have HI := Lib.hid (stable_any G c n base l hl hn hx w hO hb)
 clear hO hx hl
 go_enter Tryz.func68, Tryz.ntmps68
 go_wp2_with (go_at_call 94; refine HI.out.mono ?_; rintro e w5 ⟨rfl, hO5, hb5⟩)
 go_end0
 exact ⟨rfl, hO5, hb5⟩
end
end Go.Proofs.YtlbclfmbejjneaaGreatDoor
