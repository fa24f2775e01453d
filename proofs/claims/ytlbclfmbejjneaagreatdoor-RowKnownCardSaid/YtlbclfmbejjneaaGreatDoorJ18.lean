/- Part 18 of the proof (merged by a program out of the texts V5): lemmas of no further condition than each states. -/
import Derived.Test.YtlbclfmbejjneaaGreatDoorProg
import Derived.BigQuiet
import Derived.IntWalk
import Derived.Deep.DeepCutAuto
import Derived.Deep.RegionHeld3
import Derived.Deep.RegionLaw
import Derived.Lib.Hide
import Derived.Deep.CutBlock
import Derived.Deep.LoopGhost
import Derived.Maps.AppendAt
import Derived.Lib.SliceRun
import Derived.Test.YtlbclfmbejjneaaGreatDoorJ17
namespace Go.Proofs.YtlbclfmbejjneaaGreatDoor
set_option linter.unusedVariables false
set_option linter.unusedSimpArgs false
section
open Go.RowKit
set_option maxRecDepth 100000 in
set_option maxHeartbeats 400000 in
theorem embed_any (w : World) (base p R : Nat) (P : LPile) (d : Int) (h : PileAt w base p R P) (hne : 0 < P.states.length) (hlv : P.top.level ≤ 125) (hlen : P.states.length ≤ 2097153) (hemb : P.emb ≤ 2097152)
 (hd : d = 14 ∨ d = 15 ∨ d = 16 ∨ d = 17) :
 Calls Tryz.prog 147 #[.pointer (some ⟨p, 0, none⟩), .int .i8 d] w (PilePost w base p R (P.embed d) (.tuple #[])) := by
 obtain ⟨odd, hodd⟩ : ∃ odd, odd = (decide (d = 15) || decide (d = 17)) := ⟨_, rfl⟩
 obtain ⟨ov, hov⟩ : ∃ ov : Int, ov = if d = 16 then 0 else if d = 17 then 1 else -1 := ⟨_, rfl⟩
 have hE : P.embed d = if P.room odd = true then P.lay odd ov false else if P.deep = 0 then { P with emb := P.emb + 1 } else P := by rw [hodd, hov]; rfl
 have hl := lay_any w base p R P odd ov false h hne hlv hlen
 have hnl : P.room odd ≠ true → P.lay odd ov false = P := fun hr => by unfold LPile.lay; rw [if_neg hr]
 have HE := Lib.hid hE
 have HNL := Lib.hid hnl
 clear hE hnl h hne hlv hlen
 obtain ⟨rm, hrm⟩ : ∃ rm, P.room odd = rm := ⟨_, rfl⟩
 rw [hrm] at HE HNL hl
 have key : ∀ w1, (∃ R', PileAt w1 base p R' (P.lay odd ov false) ∧ (R' = R ∨ w.heap.size ≤ R') ∧ Keep2 p R w w1) → rm = true → PilePost w base p R (P.embed d) (.tuple #[]) (.returned (.tuple #[])) w1 := fun w1 ⟨R', k1, k2, k3⟩ hr =>
  ⟨rfl, R', by rw [HE.out, if_pos hr]; exact k1, k2, k3⟩
 have key0 : ∀ w1, (∃ R', PileAt w1 base p R' (P.lay odd ov false) ∧ (R' = R ∨ w.heap.size ≤ R') ∧ Keep2 p R w w1) → rm = false → ¬ P.deep = 0 → PilePost w base p R (P.embed d) (.tuple #[]) (.returned (.tuple #[])) w1 := fun w1 ⟨R', k1, k2, k3⟩ hr h0 => by
  have e1 := HNL.out (by rw [hr]; decide)
  rw [e1] at k1
  exact ⟨rfl, R', by rw [HE.out, if_neg (by rw [hr]; decide), if_neg h0]; exact k1, k2, k3⟩
 have key1 : ∀ w1, (∃ R', PileAt w1 base p R' (P.lay odd ov false) ∧ (R' = R ∨ w.heap.size ≤ R') ∧ Keep2 p R w w1) → rm = false → P.deep = 0 → PilePost w base p R (P.embed d) (.tuple #[]) (.returned (.tuple #[])) (w1.setCell ⟨p, 3, none⟩ (.int .i64 ((P.emb : Int) + 1))) := fun w1 ⟨R', k1, k2, k3⟩ hr h0 => by
  have e1 := HNL.out (by rw [hr]; decide)
  rw [e1] at k1
  obtain ⟨N, cap, hp, hR, r1, r2, r3, r4⟩ := k1
  exact ⟨rfl, R', by rw [HE.out, if_neg (by rw [hr]; decide), if_pos h0]; exact ⟨N, cap, by simpa using pile_set3 (v := .int .i64 ((P.emb : Int) + 1)) hp, row_set_other hR r3, r1, r2, r3, r4⟩, k2, k3.set 3 _⟩
 have hcells : ∀ w1, (∃ R', PileAt w1 base p R' (P.lay odd ov false) ∧ (R' = R ∨ w.heap.size ≤ R') ∧ Keep2 p R w w1) → rm = false → w1.cell? ⟨p, 2, none⟩ = some (.int .i64 P.deep) ∧ w1.cell? ⟨p, 3, none⟩ = some (.int .i64 P.emb) ∧ w1.frozen? ⟨p, 3, none⟩ = false := fun w1 ⟨R', k1, k2, k3⟩ hr => by
  rw [HNL.out (by rw [hr]; decide)] at k1
  obtain ⟨N, cap, hp, _⟩ := k1
  obtain ⟨_, _, c2, c3, fr, _⟩ := pile_cells hp
  exact ⟨c2, c3, fr 3⟩
 have K := Lib.hid key
 have K0 := Lib.hid key0
 have K1 := Lib.hid key1
 have HC := Lib.hid hcells
 have HL := Lib.hid hl
 clear key key0 key1 hcells hl hrm
 rcases hd with rfl | rfl | rfl | rfl
 all_goals
  simp only [decide_true, Bool.or_true, Bool.true_or, Int.reduceEq, decide_false, Bool.or_false, if_true, if_false] at hodd hov
  subst hodd hov
  go_enter Tryz.func147, Tryz.ntmps147
  go_upto_region 6 with (fail)
  by_cases hr : rm = true
  ·subst hr
   go_wp2_with (go_at_call 148; refine HL.out.mono ?_; rintro e w1 ⟨rfl, hw1⟩)
   go_end0
   exact K.out w1 hw1 (by first | rfl | trivial)
  ·have hr' : rm = false := by simpa using hr
   subst hr'
   clear hr
   by_cases h0 : P.deep = 0
   ·go_wp2_with (go_at_call 148; refine HL.out.mono ?_; rintro e w1 ⟨rfl, hw1⟩; obtain ⟨c2, c3, f3⟩ := HC.out w1 hw1 rfl; rw [h0] at c2; have HW := Lib.hid hw1; clear hw1)
    go_end0
    exact K1.out w1 HW.out (by first | rfl | trivial) h0
   ·have h0' : 0 < P.deep := by omega
    have h0b : ((P.deep : Int) == 0) = false := by simpa using h0
    go_wp2_with (go_at_call 148; refine HL.out.mono ?_; rintro e w1 ⟨rfl, hw1⟩; obtain ⟨c2, c3, f3⟩ := HC.out w1 hw1 rfl; have HW := Lib.hid hw1; clear hw1)
    go_end0
    exact K0.out w1 HW.out (by first | rfl | trivial) h0
set_option maxRecDepth 100000 in
set_option maxHeartbeats 400000 in
theorem fin_any (w : World) (base p R : Nat) (P : LPile) (h : PileAt w base p R P) (hne : 0 < P.states.length) (hlen : P.states.length ≤ 2097153) (hemb : P.emb ≤ 2097152) :
 Calls Tryz.prog 150 #[.pointer (some ⟨p, 0, none⟩)] w (PilePost w base p R P.fin (.tuple #[])) := by
 have H := Lib.hid h
 have ht := top_any w base p R P h hne
 have hpop := fun (h1 : 1 < P.states.length) W (hb : Below w.heap.size w W) => pop_any W base p R P (h.keep hb) h1
 obtain ⟨N, cap, hp, hR, r1, r2, r3, r4⟩ := h
 obtain ⟨c0, c1, c2, c3, fr, hpl⟩ := pile_cells hp
 have f3 := fr 3
 unfold stV at ht
 have HT := Lib.hid ht
 have HPO := Lib.hid hpop
 have HP := Lib.hid hp
 have HR := Lib.hid hR
 clear ht hp hR hpop
 have hF : P.fin = if 0 < P.deep then P else if 0 < P.emb then { P with emb := P.emb - 1 } else if 1 < P.states.length ∧ P.top.iso = false then P.pop else P := rfl
 have HF := Lib.hid hF
 clear hF
 have same : ∀ w1, Below w.heap.size w w1 → PileAt w1 base p R P ∧ Keep2 p R w w1 := fun w1 hb => ⟨H.out.keep hb, Keep2.of hb⟩
 have SM := Lib.hid same
 clear same
 go_enter Tryz.func150, Tryz.ntmps150
 by_cases h1 : 0 < P.deep
 ·go_wp2_with (fail)
  go_end0
  exact ⟨rfl, R, by rw [HF.out, if_pos h1]; exact (SM.out _ (Below.refl _ _)).1, .inl rfl, (SM.out _ (Below.refl _ _)).2⟩
 ·by_cases h2 : 0 < P.emb
  ·go_wp2_with (fail)
   go_end0
   refine ⟨rfl, R, ?_, .inl rfl, (Keep2.refl p R w).set 3 _⟩
   rw [HF.out, if_neg h1, if_pos h2]
   refine ⟨N, cap, ?_, row_set_other HR.out r3, r1, r2, r3, r4⟩
   have := pile_set3 (v := .int .i64 ((P.emb - 1 : Nat) : Int)) HP.out
   rw [show (((P.emb - 1 : Nat) : Int)) = (P.emb : Int) - 1 by omega] at this
   simp only
   rw [show (((P.emb - 1 : Nat) : Int)) = (P.emb : Int) - 1 by omega]
   exact this
  ·generalize P.top = s at HT HF
   obtain ⟨l, o, b⟩ := s
   simp only at HF
   have hf2 := st_field2 (.int .u8 l) (.int .i8 o) (.bool b)
   by_cases h3 : 1 < P.states.length
   ·cases b with
    | true =>
      go_wp2_with (go_at_call 145; refine HT.out.mono ?_; rintro e w1 ⟨rfl, hw1⟩)
      go_end0
      exact ⟨rfl, R, by rw [HF.out, if_neg h1, if_neg h2, if_neg (by simp)]; exact (SM.out _ hw1).1, .inl rfl, (SM.out _ hw1).2⟩
    | false =>
      go_wp2_with (first | (go_at_call 145; refine HT.out.mono ?_; rintro e w1 ⟨rfl, hw1⟩) | (go_at_call 180; refine (HPO.out h3 _ hw1).mono ?_; rintro e w2 ⟨rfl, hw2, hk2⟩))
      go_end0
      exact ⟨rfl, R, by rw [HF.out, if_neg h1, if_neg h2, if_pos ⟨h3, by first | rfl | trivial⟩]; exact hw2, .inl rfl, (Keep2.of hw1).trans hk2 (.inl rfl)⟩
   ·go_wp2_with (fail)
    go_end0
    exact ⟨rfl, R, by rw [HF.out, if_neg h1, if_neg h2, if_neg (fun e => h3 e.1)]; exact (SM.out _ (Below.refl _ _)).1, .inl rfl, (SM.out _ (Below.refl _ _)).2⟩
structure PopRel (w : World) (base p R : Nat) (P0 : LPile) (P : LPile) (wx : World) : Prop where
 at_ : PileAt wx base p R P
 keep : Keep2 p R w wx
 bot : (P.last 0).iso = false
 ne : 0 < P.states.length
 cnt : P.states.countP (·.iso) = P0.states.countP (·.iso)
 pop : LPile.popTo P.states.length P = LPile.popTo P0.states.length P0
 len : P.states.length ≤ P0.states.length
 opn : P.opn = P0.opn
set_option maxRecDepth 100000 in
set_option maxHeartbeats 400000 in
theorem close_any (w : World) (base p R : Nat) (P : LPile) (i : Nat) (h : PileAt w base p R P) (hok : P.Ok i) (hi : i ≤ 2097152) :
 Calls Tryz.prog 149 #[.pointer (some ⟨p, 0, none⟩)] w (PilePost w base p R P.close (.tuple #[])) := by
 have H := Lib.hid h
 have hF : P.close = if 0 < P.deep then { P with deep := P.deep - 1 } else if 0 < P.opn then { ((LPile.popTo P.states.length { P with emb := 0 }).pop) with opn := P.opn - 1 } else P := rfl
 have HF := Lib.hid hF
 have HOK := Lib.hid hok
 have hdp := hok.deep
 have hop := hok.opn
 obtain ⟨N, cap, hp, hR, r1, r2, r3, r4⟩ := h
 obtain ⟨c0, c1, c2, c3, fr, hpl⟩ := pile_cells hp
 have f1 := fr 1
 have f2 := fr 2
 have f3 := fr 3
 have HP := Lib.hid hp
 have HR := Lib.hid hR
 clear hp hR hF hok
 go_enter Tryz.func149, Tryz.ntmps149
 by_cases h1 : 0 < P.deep
 ·go_wp2_with (fail)
  go_end0
  refine ⟨rfl, R, ?_, .inl rfl, (Keep2.refl p R w).set 2 _⟩
  rw [HF.out, if_pos h1]
  refine ⟨N, cap, ?_, row_set_other HR.out r3, r1, r2, r3, r4⟩
  have := pile_set2 (v := .int .i64 ((P.deep : Int) - 1)) HP.out
  simp only
  rw [show (((P.deep - 1 : Nat) : Int)) = (P.deep : Int) - 1 by omega]
  exact this
 ·by_cases h2 : 0 < P.opn
  ·obtain ⟨P1, hP1⟩ : ∃ P1 : LPile, P1 = { P with emb := 0 } := ⟨_, rfl⟩
   have s1 : P1.states = P.states := by rw [hP1]
   have a1 : PileAt (w.setCell ⟨p, 3, none⟩ (.int .i64 0)) base p R P1 := by
    rw [hP1]
    exact ⟨N, cap, pile_set3 HP.out, row_set_other HR.out r3, r1, r2, r3, r4⟩
   have rel1 : PopRel w base p R P1 P1 (w.setCell ⟨p, 3, none⟩ (.int .i64 0)) :=
    ⟨a1, (Keep2.refl p R w).set 3 _, by unfold LPile.last; rw [s1]; exact HOK.out.bot, by rw [s1]; exact HOK.out.ne, rfl, rfl, Nat.le_refl _, rfl⟩
   have hc1 : 0 < P1.states.countP (·.iso) := by rw [s1, HOK.out.cnt]; exact h2
   have hPE : P.close = { ((LPile.popTo P1.states.length P1).pop) with opn := P.opn - 1 } := by rw [HF.out, if_neg h1, if_pos h2, hP1]
   have o1 : P1.opn = P.opn := by rw [hP1]
   have HR1 := Lib.hid rel1
   have HPE := Lib.hid hPE
   have HO1 := Lib.hid o1
   clear rel1 hPE a1 s1 o1 hP1
   go_upto_block 1 with (fail)
   go_wp2_with (fail)
   go_loopg [24] P1.states.length (fun gg _ wx => ∃ P', PopRel w base p R P1 P' wx ∧ P'.states.length ≤ gg)
   case atStart => exact ⟨P1, HR1.out, Nat.le_refl _⟩
   case round =>
    obtain ⟨P', rel, hgg⟩ := hrel
    have htw := LPile.two rel.ne rel.bot (by rw [rel.cnt]; exact hc1)
    have ht := top_any wr base p R P' rel.at_ rel.ne
    have hpop := fun W (hb : Below wr.heap.size wr W) => pop_any W base p R P' (rel.at_.keep hb) htw
    have hpc := P'.pop_cnt rel.ne
    unfold stV at ht
    have HREL := Lib.hid rel
    have HPO := Lib.hid hpop
    obtain ⟨s, hs⟩ : ∃ s, P'.top = s := ⟨_, rfl⟩
    rw [hs] at ht hpc
    have HS := Lib.hid hs
    obtain ⟨l, o, b⟩ := s
    have hf2 := st_field2 (.int .u8 l) (.int .i8 o) (.bool b)
    clear rel hs hpop
    cases b with
    | true =>
      have eo : P'.pop.opn = P.opn := HREL.out.opn.trans HO1.out
      go_wp2_with (first | (go_at_call 145; refine ht.mono ?_; rintro e w1 ⟨rfl, hw1⟩) | (go_at_call 180; refine (HPO.out _ hw1).mono ?_; rintro e w2 ⟨rfl, hw2, hk2⟩; have HW2 := Lib.hid hw2; obtain ⟨N2, cap2, hp2, hR2, q1, q2, q3, q4⟩ := hw2; obtain ⟨_, d1, _, _, dfr, _⟩ := pile_cells hp2; have g1 := dfr 1; rw [eo] at d1; have HP2 := Lib.hid hp2; have HR2 := Lib.hid hR2; clear hp2 hR2))
      go_end0
      have hpp : LPile.popTo P1.states.length P1 = P' := by
       rw [← HREL.out.pop]
       obtain ⟨m, hm⟩ : ∃ m, P'.states.length = m + 1 := ⟨P'.states.length - 1, by have := HREL.out.ne; omega⟩
       rw [hm, LPile.popTo, if_pos (by rw [HS.out])]
      refine ⟨rfl, R, ?_, .inl rfl, ((HREL.out.keep.trans (Keep2.of hw1) (.inl rfl)).trans hk2 (.inl rfl)).set 1 _⟩
      rw [HPE.out, hpp]
      refine ⟨N2, cap2, ?_, row_set_other HR2.out q3, q1, q2, q3, q4⟩
      have := pile_set1 (v := .int .i64 ((P.opn : Int) - 1)) HP2.out
      simp only
      rw [show (((P.opn - 1 : Nat) : Int)) = (P.opn : Int) - 1 by omega]
      exact this
    | false =>
      go_wp2_with (first | (go_at_call 145; refine ht.mono ?_; rintro e w1 ⟨rfl, hw1⟩) | (go_at_call 180; refine (HPO.out _ hw1).mono ?_; rintro e w2 ⟨rfl, hw2, hk2⟩))
      go_roundg (P'.states.length - 1)
      case measure => have := HREL.out.ne; omega
      case rel =>
       have r := HREL.out
       have hl := P'.pop_len
       refine ⟨P'.pop, ⟨hw2, (r.keep.trans (Keep2.of hw1) (.inl rfl)).trans hk2 (.inl rfl), by rw [P'.pop_last 0 (by omega)]; exact r.bot, by omega, ?_, ?_, by have := r.len; omega, r.opn⟩, by omega⟩
       ·rw [← r.cnt]
        simpa using hpc.symm
       ·rw [← r.pop]
        obtain ⟨m, hm⟩ : ∃ m, P'.states.length = m + 1 := ⟨P'.states.length - 1, by have := r.ne; omega⟩
        rw [hl, hm, Nat.add_sub_cancel]
        conv => rhs; rw [LPile.popTo, if_neg (by rw [HS.out]; simp)]
  ·go_wp2_with (fail)
   go_end0
   exact ⟨rfl, R, by rw [HF.out, if_neg h1, if_neg h2]; exact H.out, .inl rfl, Keep2.refl p R w⟩
end
end Go.Proofs.YtlbclfmbejjneaaGreatDoor
