/- The law WrapFinds of layer 14: at any line, width, look and caret it answers true, and nothing that was there changes. -/
import Derived.Test.YtphlhnkenehnnaaGreatDoorWorks
namespace Go.Proofs.YtphlhnkenehnnaaGreatDoor
set_option linter.unusedVariables false
set_option linter.unusedSimpArgs false
open Go.RowKit Go.Proofs Go.Shelf
attribute [local go_sem] Oper.semAt_some

/-- what rows must hold for the law -/
theorem finds_rows (line : ByteArray) (wd tab want : Int) (wideA raw : Bool) (c : Int) (back : Bool) (X : List RowV) (hX : rowsI line wd tab want wideA raw = X) :
    X.length ≤ 65537 ∧ ((X = [] ∧ atI (atsOf X) c back = -1) ∨ ∃ (k : Nat) (r : RowV), atI (atsOf X) c back = k ∧ k < X.length ∧ X[k]? = some r ∧ (c < 0 → k = 0) ∧ (0 ≤ c → r.a ≤ c ∧ (k + 1 < X.length → ∃ s, X[k + 1]? = some s ∧ c ≤ s.a ∧ (s.a = c → back = true)))) := by
  refine ⟨hX ▸ rows_len line wd tab want wideA raw, ?_⟩
  by_cases h0 : X = []
  · subst h0
    refine .inl ⟨rfl, ?_⟩
    unfold atI atsOf
    simp [atG]
  · right
    obtain ⟨hz, hup⟩ := rows_up line wd tab want wideA raw (by rw [hX]; exact h0)
    rw [hX] at hz hup
    have hal : (atsOf X).length = X.length := by unfold atsOf; rw [List.length_map]
    obtain ⟨k, h1, h2, h3, h4⟩ := finds_plain (atsOf X) c back (fun e => h0 (by unfold atsOf at e; simpa using e)) hz hup
    rw [hal] at h2 h4
    have hk : X[k]? = some X[k] := List.getElem?_eq_getElem h2
    refine ⟨k, X[k], h1, h2, hk, h3, fun hc => ?_⟩
    obtain ⟨h5, h6⟩ := h4 hc
    rw [ats_get hk] at h5
    refine ⟨h5, fun hl => ?_⟩
    have hk1 : X[k + 1]? = some X[k + 1] := List.getElem?_eq_getElem hl
    have h7 := h6 hl
    rw [ats_get hk1] at h7
    exact ⟨_, hk1, h7.1, h7.2⟩
theorem two_boxes (w : World) (xs ys : Array Value) (t u : Nat) :
    ((w.alloc (.cells xs t)).alloc (.cells ys u)).heap[w.heap.size]? = some (.cells xs t (0, 0)) ∧ ((w.alloc (.cells xs t)).alloc (.cells ys u)).heap[w.heap.size + 1]? = some (.cells ys u (0, 0)) ∧ Below w.heap.size w ((w.alloc (.cells xs t)).alloc (.cells ys u)) := two_alloc w _ _
set_option maxHeartbeats 1000000 in
theorem LawWF_any (line : ByteArray) (wd tab want c cx : Int) (wideA join raw back : Bool) (w : World) (hT : T8 w) (hD : DB w) :
    Calls Tryz.prog 5 #[.string line, .int .i64 wd, lookV tab want wideA join raw, .agg #[.int .i64 c, .bool back, .int .i64 cx]] w fun e w' => e = .returned (.bool true) ∧ Below w.heap.size w w' := by
  obtain ⟨X, hX⟩ : ∃ X, rowsI line wd tab want wideA raw = X := ⟨_, rfl⟩
  obtain ⟨hlen, hfin⟩ := finds_rows line wd tab want wideA raw c back X hX
  have HFIN := Lib.hid hfin
  have HR : Hid (∀ W, T8 W → DB W → Calls Tryz.prog 10 #[.string line, .int .i64 wd, lookV tab want wideA join raw] W fun e w' => ∃ pa cap, e = .returned (.slice pa X.length cap) ∧ RdR w' pa X ∧ Below W.heap.size W w') :=
    Lib.hid fun W h1 h2 => (Rows_any line wd tab want wideA join raw W h1 h2).mono fun e w' ⟨pa, cap, h3, h4, h5⟩ => by
      rw [hX] at h3 h4
      exact ⟨pa, cap, h3, h4.rd, h5⟩
  clear hX hfin
  have HT : Hid (∀ W, Below w.heap.size w W → T8 W) := Lib.hid fun W hb => hT.below rfl hb
  have HD : Hid (∀ W, Below w.heap.size w W → DB W) := Lib.hid fun W hb => hD.below hb
  clear hT hD
  go_enter Tryz.func5, Tryz.ntmps5
  go_upto_region 1 with (fail)
  obtain ⟨hx0, hx1, hb0⟩ := two_boxes w #[.int .i64 tab, .bool wideA, .int .i8 want, .bool join, .bool raw] #[.int .i64 c, .bool back, .int .i64 cx] 24 34
  have hs0 : w.heap.size + 1 < ((w.alloc (.cells #[.int .i64 tab, .bool wideA, .int .i8 want, .bool join, .bool raw] 24)).alloc (.cells #[.int .i64 c, .bool back, .int .i64 cx] 34)).heap.size := (Array.getElem?_eq_some_iff.1 hx1).1
  generalize (w.alloc (.cells #[.int .i64 tab, .bool wideA, .int .i8 want, .bool join, .bool raw] 24)).alloc (.cells #[.int .i64 c, .bool back, .int .i64 cx] 34) = W0 at hx0 hx1 hb0 hs0 ⊢
  have HWK := Lib.hid (works_any W0 (HT.out W0 hb0) (HD.out W0 hb0))
  have HB0 := Lib.hid hb0
  have HX0 := Lib.hid hx0
  have HX1 := Lib.hid hx1
  clear hb0 hx0 hx1
  go_upto_region 3 with (go_at_call 13; refine HWK.out.mono ?_; rintro e w1 ⟨rfl, hb1⟩)
  have hx0 := (hb1.block w.heap.size (by omega)).trans HX0.out
  have hx1 := (hb1.block (w.heap.size + 1) hs0).trans HX1.out
  have hbel1 := HB0.out.trans (hb1.mono (by omega))
  have l0 : w1.cell? ⟨w.heap.size, 0, none⟩ = some (.int .i64 tab) := by simp [World.cell?, hx0]
  have l1 : w1.cell? ⟨w.heap.size, 1, none⟩ = some (.bool wideA) := by simp [World.cell?, hx0]
  have l2 : w1.cell? ⟨w.heap.size, 2, none⟩ = some (.int .i8 want) := by simp [World.cell?, hx0]
  have l3 : w1.cell? ⟨w.heap.size, 3, none⟩ = some (.bool join) := by simp [World.cell?, hx0]
  have l4 : w1.cell? ⟨w.heap.size, 4, none⟩ = some (.bool raw) := by simp [World.cell?, hx0]
  have hs1 := hb1.size
  have HX1' := Lib.hid hx1
  have HBEL1 := Lib.hid hbel1
  have HR1 := Lib.hid (HR.out w1 (HT.out w1 hbel1) (HD.out w1 hbel1))
  clear hx0 hx1 hbel1 hb1 HX0 HX1 HB0 HWK HR HT HD
  go_upto_region 4 with (go_at_call 10; refine HR1.out.mono ?_; rintro e w2 ⟨pa, cap, rfl, hrd, hb2⟩)
  have hx1 := (hb2.block (w.heap.size + 1) (by omega)).trans HX1'.out
  have hbel2 := HBEL1.out.trans (hb2.mono (by omega))
  have m0 : w2.cell? ⟨w.heap.size + 1, 0, none⟩ = some (.int .i64 c) := by simp [World.cell?, hx1]
  have m1 : w2.cell? ⟨w.heap.size + 1, 1, none⟩ = some (.bool back) := by simp [World.cell?, hx1]
  have m2 : w2.cell? ⟨w.heap.size + 1, 2, none⟩ = some (.int .i64 cx) := by simp [World.cell?, hx1]
  have hs2 := hb2.size
  have hAt := At_any pa cap X.length X rfl (by omega) c cx back w2 hrd
  have HAT := Lib.hid hAt
  have HRD := Lib.hid hrd
  have HBEL2 := Lib.hid hbel2
  have HX2 := Lib.hid hx1
  clear l0 l1 l2 l3 l4 hx1 hbel2 hb2 hAt hrd HR1 HX1' HBEL1
  go_upto_region 5 with (go_at_call 14; refine HAT.out.mono ?_; rintro e w3 ⟨rfl, hb3⟩)
  have hx1 := (hb3.block (w.heap.size + 1) (by omega)).trans HX2.out
  have hrd3 := HRD.out.below hb3
  have hbel3 := HBEL2.out.trans (hb3.mono (by omega))
  have hs3 := hb3.size
  have HBEL3 := Lib.hid hbel3
  have HX3 := Lib.hid hx1
  have HRD3 := Lib.hid hrd3
  clear m0 m1 m2 hx1 hbel3 hb3 hrd3 HX2 HRD HBEL2 HAT
  rcases HFIN.out with ⟨h1, h2⟩ | ⟨k, r, h1, h2, h3, h4, h5⟩
  · subst h1
    rw [h2]
    clear h2 HFIN hlen
    go_wp2_with (fail)
    go_ret
    exact ⟨by simp, HBEL3.out⟩
  rw [h1]
  have hkk : (X.length : Int) ≠ 0 := by omega
  have c0 : ((X.length : Int) == 0) = false := by rw [beq_eq_false_iff_ne]; exact hkk
  have c1 : ¬ ((k : Int) < 0) := by omega
  have c2 : ¬ ((k : Int) ≥ (X.length : Int)) := by omega
  obtain ⟨b, off, hpa, hblt, x0, x1, x2, x3, x4⟩ := HRD3.out.at k r h3
  subst hpa
  have H5 := Lib.hid h5
  have H4 := Lib.hid h4
  clear h1 h3 h4 h5 HFIN
  go_upto_region 10 with (fail)
  have hb4 : Below w3.heap.size w3 (w3.alloc (.cells #[.int .i64 r.a, .int .i64 r.len, .int .u8 r.level, .int .i64 r.wide, .int .i8 r.fin] 30)) := (Below.refl _ _).alloc (Nat.le_refl _) _
  have hy := World.alloc_heap_new w3 (.cells #[.int .i64 r.a, .int .i64 r.len, .int .u8 r.level, .int .i64 r.wide, .int .i8 r.fin] 30)
  generalize w3.alloc (.cells #[.int .i64 r.a, .int .i64 r.len, .int .u8 r.level, .int .i64 r.wide, .int .i8 r.fin] 30) = W4 at hb4 hy ⊢
  have hx1 := (hb4.block (w.heap.size + 1) (by omega)).trans HX3.out
  have m0 : W4.cell? ⟨w.heap.size + 1, 0, none⟩ = some (.int .i64 c) := by simp [World.cell?, hx1]
  have m1 : W4.cell? ⟨w.heap.size + 1, 1, none⟩ = some (.bool back) := by simp [World.cell?, hx1]
  have y0 := row_cells hy
  have hbel4 := HBEL3.out.trans (hb4.mono (by omega))
  have HRD4 := Lib.hid (HRD3.out.below hb4)
  have HBEL4 := Lib.hid hbel4
  clear x0 x1 x2 x3 x4 hx1 hy hb4 hbel4 HRD3 HX3 HBEL3
  by_cases hc : c < 0
  · obtain rfl := H4.out hc
    go_wp2_with (fail)
    go_ret
    exact ⟨rfl, HBEL4.out⟩
  have hc0 : 0 ≤ c := by omega
  obtain ⟨h6, h7⟩ := H5.out hc0
  have H7 := Lib.hid h7
  clear h7 H5 H4
  have g1 : ¬ (r.a > c) := by omega
  have hkb : (k : Int) ≤ 65537 := by omega
  go_upto_region 12 with (fail)
  by_cases hk1 : k + 1 < X.length
  · obtain ⟨s, s1, s2, s3⟩ := H7.out hk1
    obtain ⟨b2, o2, hpb, _, z0, _, _, _, _⟩ := HRD4.out.at (k + 1) s s1
    cases hpb
    have g2 : ¬ (s.a < c) := by omega
    have g3 : (k : Int) + 1 < (X.length : Int) := by omega
    clear s1 H7 HRD4 hk1 h2
    by_cases he : s.a = c
    · have hbk := s3 he
      subst hbk
      subst he
      clear s3 s2 h6
      go_quiet (fail)
      go_wp2_with (fail)
      have hb5 := Lib.hid (bl_drewN HBEL4.out nq)
      replace m0 : (W4.drewN nq).cell? ⟨w.heap.size + 1, 0, none⟩ = some (.int .i64 s.a) := m0
      replace m1 : (W4.drewN nq).cell? ⟨w.heap.size + 1, 1, none⟩ = some (.bool true) := m1
      replace z0 : (W4.drewN nq).cell? ⟨b, off + (k + 1) * 5, none⟩ = some (.int .i64 s.a) := z0
      generalize W4.drewN nq = W5 at m0 m1 z0 hb5 ⊢
      go_quiet (fail)
      go_wp2_with (fail)
      go_ret
      exact ⟨rfl, bl_drewN hb5.out _⟩
    · have c3 : (s.a == c) = false := by rw [beq_eq_false_iff_ne]; exact he
      clear s3 h6
      go_quiet (fail)
      go_wp2_with (fail)
      have hb5 := Lib.hid (bl_drewN HBEL4.out nq)
      replace m0 : (W4.drewN nq).cell? ⟨w.heap.size + 1, 0, none⟩ = some (.int .i64 c) := m0
      replace m1 : (W4.drewN nq).cell? ⟨w.heap.size + 1, 1, none⟩ = some (.bool back) := m1
      replace z0 : (W4.drewN nq).cell? ⟨b, off + (k + 1) * 5, none⟩ = some (.int .i64 s.a) := z0
      generalize W4.drewN nq = W5 at m0 m1 z0 hb5 ⊢
      go_quiet (fail)
      go_wp2_with (fail)
      go_ret
      exact ⟨rfl, bl_drewN hb5.out _⟩
  · have g3 : ¬ ((k : Int) + 1 < (X.length : Int)) := by omega
    clear H7 HRD4 hk1
    go_quiet (fail)
    go_wp2_with (fail)
    have hb5 := Lib.hid (bl_drewN HBEL4.out nq)
    replace m0 : (W4.drewN nq).cell? ⟨w.heap.size + 1, 0, none⟩ = some (.int .i64 c) := m0
    replace m1 : (W4.drewN nq).cell? ⟨w.heap.size + 1, 1, none⟩ = some (.bool back) := m1
    generalize W4.drewN nq = W5 at m0 m1 hb5 ⊢
    have g5 : decide ((k : Int) + 1 < (X.length : Int)) = false := by rw [decide_eq_false_iff_not]; omega
    clear g3
    go_quiet (fail)
    go_wp2_with (fail)
    go_ret
    exact ⟨rfl, bl_drewN hb5.out _⟩
end Go.Proofs.YtphlhnkenehnnaaGreatDoor
