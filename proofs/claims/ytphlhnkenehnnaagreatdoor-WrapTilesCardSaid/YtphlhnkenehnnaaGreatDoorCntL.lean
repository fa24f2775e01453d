/- Contract of shuttlelaw14.counted. Condition: utf8's two tables stand where start-up lays them. -/
import Derived.Test.YtphlhnkenehnnaaGreatDoorCnt
import Derived.Laws.ResultCell
namespace Go.Proofs.YtphlhnkenehnnaaGreatDoor
set_option linter.unusedVariables false
set_option linter.unusedSimpArgs false
open Go.RowKit Go.Proofs Go.Shelf
attribute [local go_sem] Oper.semAt_some

theorem results_cell_cell {fn : Func} {p q : Tmp} {ty ty' : TypeId} (h : fn.results = #[.cell p ty, .cell q ty']) (tmps : Array Value) (P : Program) (w : World) :
    (results fn tmps).run P w = ((asAddr (tmps.getD p undef)).run P w).andThen fun a w₁ => ((loadVar ty a).run P w₁).andThen fun v w₂ => ((asAddr (tmps.getD q undef)).run P w₂).andThen fun a w₃ => ((loadVar ty' a).run P w₃).andThen fun v' w₄ => .ok (.tuple #[v, v']) w₄ := by
  simp only [results, h]
  simp [Sem.run_bind, Result.andThen]
theorem cnt_results {tmps : Array Value} {W : World} {g h : Nat} {t : ByteArray} {e : Bool} (hp : tmps.getD 2 undef = .pointer (some ⟨g, 0, none⟩)) (hq : tmps.getD 3 undef = .pointer (some ⟨h, 0, none⟩)) (h1 : Boxed W g 9 (.string t)) (h2 : Boxed W h 4 (.bool e)) :
    (results Tryz.f17 tmps).run Tryz.prog W = .ok (.tuple #[.string t, .bool e]) W := by
  have hr : Tryz.f17.results = #[.cell 2 9, .cell 3 4] := rfl
  have l1 : (loadVar 9 ⟨g, 0, none⟩).run Tryz.prog W = .ok (.string t) W := by
    simp [loadVar, run_underlying Tryz.underlying9, isAgg, h1.cell]
  have l2 : (loadVar 4 ⟨h, 0, none⟩).run Tryz.prog W = .ok (.bool e) W := by
    simp [loadVar, run_underlying Tryz.underlying4, isAgg, h2.cell]
  rw [results_cell_cell hr, hp, hq]
  simp only [asAddr, Sem.run_pure, Result.andThen_ok, l1, l2]
theorem eq_itN (n A : Nat) (w : World) : (Op.equalIn (n + 1) 68 (.func (.func 110) #[] #[.pointer (some ⟨A, 0, none⟩)]) .nilFunc).run Tryz.prog w = .ok false w := by
  unfold Op.equalIn
  simp [run_underlying Tryz.underlying68, Sem.run_bind]
theorem eq_it (A : Nat) (w : World) : (binOp BinOp.eql 68 (.func (.func 110) #[] #[.pointer (some ⟨A, 0, none⟩)]) .nilFunc).run Tryz.prog w = .ok (.bool false) w := by
  have h := eq_itN 9999 A w
  simp only [binOp, Op.equal]
  rw [show Op.maxDepth = 9999 + 1 from rfl]
  simp [h]
/-- between two rounds -/
def CnJ (w : World) (A n : Nat) (line : ByteArray) (wa : Option Addr) (wc : Nat) (pre : List (PieceOf line)) (W : World) : Prop :=
  Boxed W w.heap.size 9 (.string line) ∧ Boxed W (w.heap.size + 1) 9 (.string ⟨#[]⟩) ∧ Boxed W (w.heap.size + 1 + 1) 4 (.bool false) ∧ Boxed W A 46 (.slice wa (whereI line).length wc) ∧ OutAt .i8 22 W w.heap.size wa wc (whereI line) ∧
    Boxed W n 9 (.string line) ∧ Boxed W (n + 1) 3 (.int .i64 pre.length) ∧ (∀ R, countF (pre.map (·.1) ++ R) (whereI line) = countF R ((whereI line).drop pre.length)) ∧ Below w.heap.size w W
/-- where it has left -/
def CnY (w : World) (line : ByteArray) (c : Code) (pre : List (PieceOf line)) (W : World) : Prop :=
  c = .ret ∧ ∃ e, (∀ R, countF (pre.map (·.1) ++ R) (whereI line) = some e) ∧ Boxed W (w.heap.size + 1) 9 (.string (line.extract 0 e)) ∧ Boxed W (w.heap.size + 1 + 1) 4 (.bool true) ∧ Below w.heap.size w W
theorem three_alloc (w : World) (o1 o2 o3 : Obj) : (((w.alloc o1).alloc o2).alloc o3).heap[w.heap.size]? = some o1 ∧ (((w.alloc o1).alloc o2).alloc o3).heap[w.heap.size + 1]? = some o2 ∧ (((w.alloc o1).alloc o2).alloc o3).heap[w.heap.size + 1 + 1]? = some o3 ∧ Below w.heap.size w (((w.alloc o1).alloc o2).alloc o3) := by
  obtain ⟨h1, h2, h3⟩ := two_alloc w o1 o2
  have hs : ((w.alloc o1).alloc o2).heap.size = w.heap.size + 2 := by rw [World.size_alloc, World.size_alloc]
  have h4 := World.alloc_heap_new ((w.alloc o1).alloc o2) o3
  have h5 := (Below.refl ((w.alloc o1).alloc o2).heap.size ((w.alloc o1).alloc o2)).alloc (Nat.le_refl _) o3
  rw [hs] at h4 h5
  exact ⟨(h5.block _ (by omega)).trans h1, (h5.block _ (by omega)).trans h2, h4, h3.trans (h5.mono (by omega))⟩
set_option maxRecDepth 100000 in
set_option maxHeartbeats 1000000 in
theorem countedL_any (line : ByteArray) (hs : line.size ≤ 2097152) (w : World) (hT : T8 w) :
    Calls Tryz.prog 17 #[.string line] w fun e w' => e = .returned (.tuple #[.string (textOf line), .bool (countI line).isSome]) ∧ Below w.heap.size w w' := by
  refine (callsIn_wide (n := 4)).1 ?_
  refine callsIn_of_wp_marks Tryz.func17 rfl trivial ?_ rfl
  simp only [Tryz.ntmps17, List.size_toArray, List.length_cons, List.length_nil, Nat.reduceAdd, Nat.reduceSub, Array.replicate_succ, Array.replicate_zero, List.push_toArray, List.append_toArray, List.nil_append, List.cons_append]
  gi_upto_region 1 with (fail)
  obtain ⟨j1, j2, j3, hb0⟩ := three_alloc w (.cells #[.string line] 9 (0, 0)) (.cells #[.string ⟨#[]⟩] 9 (0, 0)) (.cells #[.bool false] 4 (0, 0))
  have hs0 : (((w.alloc (.cells #[.string line] 9)).alloc (.cells #[.string ⟨#[]⟩] 9)).alloc (.cells #[.bool false] 4)).heap.size = w.heap.size + 3 := by rw [World.size_alloc, World.size_alloc, World.size_alloc]
  generalize ((w.alloc (.cells #[.string line] 9)).alloc (.cells #[.string ⟨#[]⟩] 9)).alloc (.cells #[.bool false] 4) = W0 at j1 j2 j3 hb0 hs0 ⊢
  have k1 : Boxed W0 w.heap.size 9 (.string line) := j1
  have k2 : Boxed W0 (w.heap.size + 1) 9 (.string ⟨#[]⟩) := j2
  have k3 : Boxed W0 (w.heap.size + 1 + 1) 4 (.bool false) := j3
  clear j1 j2 j3
  have c1 := k1.cell
  have hWH := Where_any line W0 (hT.below rfl hb0) hs
  have HWH := Lib.hid hWH
  have HT : Hid (∀ W, Below w.heap.size w W → T8 W) := Lib.hid fun W hb => hT.below rfl hb
  clear hWH
  gi_wp2_with (fail)
  refine ⟨trivial, ?_⟩
  refine (callsIn_wide.2 HWH.out).mono ?_
  rintro e' W1 ⟨wa, wc, rfl, hO, hb1⟩
  have k11 : Boxed W1 w.heap.size 9 (.string line) := (hb1.block _ (by omega)).trans k1
  have c11 := k11.cell
  have hs1 := hb1.size
  gi_upto_region 2 with (fail)
  obtain ⟨A, hA⟩ : ∃ A, W1.heap.size = A := ⟨_, rfl⟩
  have hb2 : Below W1.heap.size W1 (W1.alloc (.cells #[.slice wa (whereI line).length wc] 46)) := (Below.refl _ _).alloc (Nat.le_refl _) _
  have hx2 : Boxed (W1.alloc (.cells #[.slice wa (whereI line).length wc] 46)) W1.heap.size 46 (.slice wa (whereI line).length wc) := World.alloc_heap_new W1 _
  have hz2 : (W1.alloc (.cells #[.slice wa (whereI line).length wc] 46)).heap.size = W1.heap.size + 1 := World.size_alloc _ _
  generalize W1.alloc (.cells #[.slice wa (whereI line).length wc] 46) = W2 at hb2 hx2 hz2 ⊢
  have hO2 := hO.keep hb2
  have hb12 := hb1.trans (hb2.mono hs1)
  have k12 : Boxed W2 w.heap.size 9 (.string line) := (hb12.block _ (by omega)).trans k1
  have k22 : Boxed W2 (w.heap.size + 1) 9 (.string ⟨#[]⟩) := (hb12.block _ (by omega)).trans k2
  have k32 : Boxed W2 (w.heap.size + 1 + 1) 4 (.bool false) := (hb12.block _ (by omega)).trans k3
  have c12 := k12.cell
  have hbw2 : Below w.heap.size w W2 := hb0.trans (hb12.mono (by omega))
  have hO2' : OutAt .i8 22 W2 w.heap.size wa wc (whereI line) := own_mono hO2 (by omega)
  rw [hA] at hx2 hz2 ⊢
  have hwA : w.heap.size + 3 ≤ A := by omega
  have K1 := Lib.hid k12
  have K2 := Lib.hid k22
  have K3 := Lib.hid k32
  have KO := Lib.hid hO2'
  have KA := Lib.hid hx2
  have KB := Lib.hid hbw2
  clear k1 k2 k3 c1 HWH hO hb1 k11 c11 hs1 hb2 hO2 hb12 k12 k22 k32 hbw2 hO2' hx2 hb0 hs0
  gi_wp2_with (fail)
  refine ⟨trivial, ?_⟩
  refine (callsIn_wide.2 (All_any line _)).mono ?_
  rintro e' W3 ⟨rfl, hW3⟩
  rw [hz2]
  unfold itV
  obtain ⟨m1, m2, m3⟩ := two_alloc W2 (.cells #[.string line] 9 (0, 0)) (.cells #[.int .i64 0] 3 (0, 0))
  have hz3 : W3.heap.size = A + 2 := by rw [hW3, World.size_alloc, hz2]
  have hnf := eq_it (A + 1)
  gi_upto_region 6 with (fail)
  clear hnf
  have hz4 : ((W2.alloc (.cells #[.string line] 9)).alloc (.cells #[.int .i64 0] 3)).heap.size = A + 3 := by rw [World.size_alloc, World.size_alloc, hz2]
  rw [hz2] at m1 m2 m3
  generalize (W2.alloc (.cells #[.string line] 9)).alloc (.cells #[.int .i64 0] 3) = W4 at m1 m2 m3 hz4 ⊢
  clear hW3 hz3 W3
  have n1 : Boxed W4 (A + 1) 9 (.string line) := m1
  have n2 : Boxed W4 (A + 1 + 1) 3 (.int .i64 0) := m2
  have m3' : Below W2.heap.size W2 W4 := by rw [hz2]; exact m3
  have q1 : Boxed W4 w.heap.size 9 (.string line) := (m3.block _ (by omega)).trans K1.out
  have q2 : Boxed W4 (w.heap.size + 1) 9 (.string ⟨#[]⟩) := (m3.block _ (by omega)).trans K2.out
  have q3 : Boxed W4 (w.heap.size + 1 + 1) 4 (.bool false) := (m3.block _ (by omega)).trans K3.out
  have q4 : Boxed W4 A 46 (.slice wa (whereI line).length wc) := (m3.block _ (by omega)).trans KA.out
  have q5 := KO.out.keep m3'
  have q6 : Below w.heap.size w W4 := KB.out.trans (m3.mono (by omega))
  have hT4 := HT.out _ q6
  have hTT := HT.out w (Below.refl _ _)
  have h3 : Tryz.lays197_ren.g 3 < w.heap.size := cell_lt (hTT.1 0 (by omega))
  have h4 : Tryz.lays197_ren.g 4 < w.heap.size := cell_lt (hTT.2 0 (by omega)).1
  clear hTT m1 m2 m3 m3' K1 K2 K3 KO KA KB c12
  gi_wp2_with (fail)
  refine wpIn_rangeFunc_ownF (F := Fence.wide) rfl (by omega) (gf := 110) (lb := #[.pointer (some ⟨A + 1, 0, none⟩)]) rfl trivial (enters_of Tryz.func110 (by kernel_rfl) rfl)
    (pieces_stops 3 (by omega) (A + 1) w.heap.size line (by omega) h3 h4 W4 (by omega) n1.cell hT4) (fun h k => KpB.trans h k) (kpB_put (w := W4) (by omega)) (Below.refl _ _) (fun _ => rfl)
    (CnJ w A (A + 1) line wa wc) (CnY w line) ?hI ?hIx ?h0
    (fun x => { tmps := #[.string line, .pointer (some ⟨w.heap.size, 0, none⟩), .pointer (some ⟨w.heap.size + 1, 0, none⟩), .pointer (some ⟨w.heap.size + 1 + 1, 0, none⟩), .pointer (some ⟨A, 0, none⟩), (.func (.func 110) #[] #[.pointer (some ⟨A + 1, 0, none⟩)]), .pointer (some ⟨A + 1 + 1, 0, none⟩), .int .i64 x.1.1, .string line, .slice wa (whereI line).length wc, .string line, (.func (.func 110) #[] #[.pointer (some ⟨A + 1, 0, none⟩)]), (.func (.func 110) #[] #[.pointer (some ⟨A + 1, 0, none⟩)]), .bool false, undef, (.func (.func 110) #[] #[.pointer (some ⟨A + 1, 0, none⟩)]), .int .i64 x.1.1, .string x.1.2, undef, undef, undef, undef, undef, undef, undef, undef, undef, undef, undef, undef, undef, undef, undef, undef, undef], defers := [] }) ?assign ?body ?done ?stop
  case hI =>
    rintro pre X Y row ⟨r1, r2, r3, r4, r5, r6, r7, r8, r9⟩ hg hrow
    have hr := fun k e => (hrow k e).2
    refine ⟨box_kept r1 hg hr, box_kept r2 hg hr, box_kept r3 hg hr, box_kept r4 hg hr, World.ownsRow.kept r5 hg ?_, box_kept r6 hg hr, box_kept r7 hg hr, r8, r9.grown hg (by have := r9.size; omega) (fun k e => by have := (hrow k e).1; omega)⟩
    rcases r5.2 with ⟨h, _⟩ | ⟨g, cap, cur, h, _, hgb, _⟩
    · rw [h]; exact .inl rfl
    · rw [h]
      refine .inr fun e' => ?_
      obtain ⟨o, ho, hc⟩ := hr _ e'.symm
      rw [hgb] at ho
      cases ho; cases hc
  case hIx =>
    rintro c pre X Y row ⟨h0, e, r1, r2, r3, r9⟩ hg hrow
    have hr := fun k e => (hrow k e).2
    exact ⟨h0, e, r1, box_kept r2 hg hr, box_kept r3 hg hr, r9.grown hg (by have := r9.size; omega) (fun k e => by have := (hrow k e).1; omega)⟩
  case h0 => exact ⟨q1, q2, q3, q4, q5, n1, n2, fun R => by simp, q6⟩
  case assign =>
    intro l x W K hK
    gi_wp2_with (fail)
    exact hK
  case body =>
    rintro l pre x W ⟨r1, r2, r3, r4, r5, r6, r7, r8, r9⟩ hlt
    obtain ⟨at', hat⟩ : ∃ a, x.1.1 = a := ⟨_, rfl⟩
    obtain ⟨k, hk⟩ : ∃ k, pre.length = k := ⟨_, rfl⟩
    have hx := x.2
    rw [hat] at hx
    have hat2 : at' ≤ line.size := by omega
    simp only [hat]
    rw [hk] at r7 hlt r8
    have hkl : k < (whereI line).length := by rw [whereI_len]; exact hlt
    have hkz : k < 2097152 := by have := pieces_len line; omega
    obtain ⟨G, hG, hmG, hGl, hcell, _⟩ := r5.at k hkl
    subst hG
    obtain ⟨q, hq⟩ : ∃ q, ith (whereI line) k = q := ⟨_, rfl⟩
    rw [hq] at hcell
    have c1 := r1.cell
    have c2 := r2.cell
    have c3 := r3.cell
    have cA := r4.cell
    have ci := r7.cell
    have f2 := r2.frozen
    have f3 := r3.frozen
    have fi := r7.frozen
    have hsn := countF_snoc (L := pre.map (·.1)) (ks := whereI line) (by rw [List.length_map, hk]; exact r8) x.1 (by rw [List.length_map, hk]; exact hkl)
    rw [List.length_map, hk, hq, hat] at hsn
    obtain ⟨N, hN⟩ : ∃ N, (whereI line).length = N := ⟨_, rfl⟩
    rw [hN] at hkl cA
    have HN := Lib.hid hN
    have R1 := Lib.hid r1
    have R2 := Lib.hid r2
    have R3 := Lib.hid r3
    have R4 := Lib.hid r4
    have R5 := Lib.hid r5
    have R6 := Lib.hid r6
    have R7 := Lib.hid r7
    have R9 := Lib.hid r9
    have HSN := Lib.hid hsn
    have HK := Lib.hid hk
    clear r1 r2 r3 r4 r5 r6 r7 r8 r9 hx hsn hat hk hlt hq hN n1 n2 q1 q2 q3 q4 q5 q6 hT4
    by_cases e2 : q = 2
    · subst e2
      have hsn := fun R => (HSN.out R).trans (if_pos rfl)
      have HE := Lib.hid hsn
      clear hsn HSN
      gi_wp2_with (fail)
      have hfin : CnY w line .ret (pre ++ [x]) ((W.setCell ⟨w.heap.size + 1, 0, none⟩ (.string (line.extract 0 at'))).setCell ⟨w.heap.size + 1 + 1, 0, none⟩ (.bool true)) :=
        ⟨rfl, at', (fun R => by rw [List.map_append, List.map_singleton]; exact HE.out R), box_other (set_at R2.out _) (by omega), set_at (box_other R3.out (by omega)) _,
          (R9.out.setCell (p := ⟨w.heap.size + 1, 0, none⟩) (Nat.le_succ _) _).setCell (p := ⟨w.heap.size + 1 + 1, 0, none⟩) (Nat.le_trans (Nat.le_succ _) (Nat.le_succ _)) _⟩
      refine ⟨(KeepsOthers.setCell _ _ _).trans (KeepsOthers.setCell _ _ _), ?_⟩
      exact hfin
    · have hsn := fun R => (HSN.out R).trans (if_neg e2)
      have HE := Lib.hid hsn
      have e3 : (q == 2) = false := by rw [beq_eq_false_iff_ne]; exact e2
      clear hsn HSN
      gi_wp2_with (fail)
      have hb6 : Below w.heap.size W (W.setCell ⟨A + 1 + 1, 0, none⟩ (.int .i64 ((k : Int) + 1))) := (Below.refl _ _).setCell (p := ⟨A + 1 + 1, 0, none⟩) (show w.heap.size ≤ A + 1 + 1 by omega) _
      have s6 : Boxed (W.setCell ⟨A + 1 + 1, 0, none⟩ (.int .i64 ((k : Int) + 1))) (A + 1) 9 (.string line) := box_other R6.out (by omega)
      refine ⟨KeepsOthers.setCell _ _ _, ⟨hb6, fun v hv => ?_⟩, box_other R1.out (by omega), box_other R2.out (by omega), box_other R3.out (by omega), box_other R4.out (by omega), row_other R5.out (ne_row R5.out R7.out (by decide)), s6, ?_, fun R => ?_, R9.out.trans hb6⟩
      · rw [R6.out.cell] at hv
        cases hv
        exact s6.cell
      · rw [List.length_append, HK.out]
        exact set_at R7.out _
      · rw [List.map_append, List.map_singleton, HE.out R, List.length_append, List.length_append, List.length_map]
        rfl
  case done =>
    rintro D xs W hD hxs ⟨r1, r2, r3, r4, r5, r6, r7, r8, r9⟩ hK
    have hcn : countI line = none := by
      have := r8 []
      rw [List.append_nil, hxs] at this
      unfold countI
      rw [this]
      unfold countF
      rfl
    have ht : textOf line = line := by unfold textOf; rw [hcn]
    have c1 := r1.cell
    have f2 := r2.frozen
    have f3 := r3.frozen
    have c2 := r2.cell
    have c3 := r3.cell
    have R2 := Lib.hid r2
    have R3 := Lib.hid r3
    have R9 := Lib.hid r9
    have HC := Lib.hid hcn
    have HTX := Lib.hid ht
    clear r1 r2 r3 r4 r5 r6 r7 r8 r9 hcn ht
    gi_wp2_with (fail)
    have s2 : Boxed ((W.setCell ⟨w.heap.size + 1, 0, none⟩ (.string line)).setCell ⟨w.heap.size + 1 + 1, 0, none⟩ (.bool false)) (w.heap.size + 1) 9 (.string line) := box_other (set_at R2.out _) (by omega)
    have s3 : Boxed ((W.setCell ⟨w.heap.size + 1, 0, none⟩ (.string line)).setCell ⟨w.heap.size + 1 + 1, 0, none⟩ (.bool false)) (w.heap.size + 1 + 1) 4 (.bool false) := set_at (box_other R3.out (by omega)) _
    have s9 : Below w.heap.size w ((W.setCell ⟨w.heap.size + 1, 0, none⟩ (.string line)).setCell ⟨w.heap.size + 1 + 1, 0, none⟩ (.bool false)) := (R9.out.setCell (p := ⟨w.heap.size + 1, 0, none⟩) (Nat.le_succ _) _).setCell (p := ⟨w.heap.size + 1 + 1, 0, none⟩) (Nat.le_trans (Nat.le_succ _) (Nat.le_succ _)) _
    have sK : ((W.setCell ⟨w.heap.size + 1, 0, none⟩ (.string line)).setCell ⟨w.heap.size + 1 + 1, 0, none⟩ (.bool false)).heap[D]? = some (.deferred (some [])) := box_other (box_other hK (by omega)) (by omega)
    generalize (W.setCell ⟨w.heap.size + 1, 0, none⟩ (.string line)).setCell ⟨w.heap.size + 1 + 1, 0, none⟩ (.bool false) = W5 at s2 s3 s9 sK ⊢
    refine ⟨by simp, .inl ⟨_, _, rfl, run_takeDeferred sK, ?_⟩⟩
    refine ⟨_, cnt_results rfl rfl (box_kept s2 (grownBy_putObj' W5 D (.deferred none)) (fun r e => by cases e; exact ⟨_, sK, rfl⟩)) (box_kept s3 (grownBy_putObj' W5 D (.deferred none)) (fun r e => by cases e; exact ⟨_, sK, rfl⟩)), ?_, ?_⟩
    · rw [HTX.out, HC.out]; rfl
    · exact s9.trans (belowK_b (w := w) (Nat.le_refl _) W5 D _ _ (by omega) sK rfl rfl)
  case stop =>
    rintro D c pre W hD hSp ⟨rfl, e, r1, r2, r3, r9⟩ hK
    have hcn : countI line = some e := by
      obtain ⟨R, hR⟩ := hSp
      have := r1 R
      rw [hR] at this
      exact this
    have ht : textOf line = line.extract 0 e := by unfold textOf; rw [hcn]
    dsimp only
    gi_wp2_with (fail)
    refine ⟨by simp, .inl ⟨_, _, rfl, run_takeDeferred hK, ?_⟩⟩
    refine ⟨_, cnt_results rfl rfl (box_kept r2 (grownBy_putObj' W D (.deferred none)) (fun r e => by cases e; exact ⟨_, hK, rfl⟩)) (box_kept r3 (grownBy_putObj' W D (.deferred none)) (fun r e => by cases e; exact ⟨_, hK, rfl⟩)), ?_, ?_⟩
    · rw [ht, hcn]; rfl
    · exact r9.trans (belowK_b (w := w) (Nat.le_refl _) W D _ _ (by omega) hK rfl rfl)
end Go.Proofs.YtphlhnkenehnnaaGreatDoor
