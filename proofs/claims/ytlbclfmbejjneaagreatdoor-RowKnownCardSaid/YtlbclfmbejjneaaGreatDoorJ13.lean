/- Part 13 of the proof (merged by a program out of the texts AtC): lemmas of no further condition than each states. -/
import Derived.Laws.ResultCell
import Derived.Test.YtlbclfmbejjneaaGreatDoorJ12
namespace Go.Proofs.YtlbclfmbejjneaaGreatDoor
set_option linter.unusedVariables false
set_option linter.unusedSimpArgs false
section
open Go.RowKit Go.Proofs Go.Shelf
attribute [local go_sem] Oper.semAt_some
theorem results_cells2 {fn : Func} {p q : Tmp} {ty ty' : TypeId} (h : fn.results = #[.cell p ty, .cell q ty']) (tmps : Array Value) (P : Program) (w : World) :
 (results fn tmps).run P w = ((asAddr (tmps.getD p undef)).run P w).andThen fun a w₁ => ((loadVar ty a).run P w₁).andThen fun v w₂ => ((asAddr (tmps.getD q undef)).run P w₂).andThen fun a w₃ => ((loadVar ty' a).run P w₃).andThen fun v' w₄ => .ok (.tuple #[v, v']) w₄ := by
 simp only [results, h]
 simp [Sem.run_bind, Result.andThen]
theorem at_results {tmps : Array Value} {W : World} {g h : Nat} {x y : Int} (hp : tmps.getD 4 undef = .pointer (some ⟨g, 0, none⟩)) (hq : tmps.getD 5 undef = .pointer (some ⟨h, 0, none⟩)) (h1 : Boxed W g 3 (.int .i64 x)) (h2 : Boxed W h 3 (.int .i64 y)) :
 (results Tryz.f13 tmps).run Tryz.prog W = .ok (.tuple #[.int .i64 x, .int .i64 y]) W := by
 have hr : Tryz.f13.results = #[.cell 4 3, .cell 5 3] := rfl
 have l1 : (loadVar 3 ⟨g, 0, none⟩).run Tryz.prog W = .ok (.int .i64 x) W := by
  simp [loadVar, run_underlying Tryz.underlying3, isAgg, h1.cell]
 have l2 : (loadVar 3 ⟨h, 0, none⟩).run Tryz.prog W = .ok (.int .i64 y) W := by
  simp [loadVar, run_underlying Tryz.underlying3, isAgg, h2.cell]
 rw [results_cells2 hr, hp, hq]
 simp only [asAddr, Sem.run_pure, Result.andThen_ok, l1, l2]
def AtJ (w : World) (X n : Nat) (s : ByteArray) (pre : List (PieceOf s)) (W : World) : Prop :=
 Boxed W w.heap.size 3 (.int .i64 X) ∧ Boxed W (w.heap.size + 1) 3 (.int .i64 0) ∧ Boxed W (w.heap.size + 1 + 1) 3 (.int .i64 0) ∧ Boxed W n 9 (.string s) ∧
  (∀ R, clAtF X (pre.map (·.1) ++ R) s.size = clAtF X R s.size) ∧ Below w.heap.size w W
def AtY (w : World) (X : Nat) (s : ByteArray) (c : Code) (pre : List (PieceOf s)) (W : World) : Prop :=
 c = .ret ∧ ∃ r : Nat × Nat, (∀ R, clAtF X (pre.map (·.1) ++ R) s.size = r) ∧ Boxed W (w.heap.size + 1) 3 (.int .i64 r.1) ∧ Boxed W (w.heap.size + 1 + 1) 3 (.int .i64 r.2) ∧ Below w.heap.size w W
theorem alloc3 (w : World) (o1 o2 o3 : Obj) : (((w.alloc o1).alloc o2).alloc o3).heap[w.heap.size]? = some o1 ∧ (((w.alloc o1).alloc o2).alloc o3).heap[w.heap.size + 1]? = some o2 ∧ (((w.alloc o1).alloc o2).alloc o3).heap[w.heap.size + 1 + 1]? = some o3 ∧ Below w.heap.size w (((w.alloc o1).alloc o2).alloc o3) := by
 obtain ⟨h1, h2, h3⟩ := two_alloc w o1 o2
 have hs : ((w.alloc o1).alloc o2).heap.size = w.heap.size + 2 := by rw [World.size_alloc, World.size_alloc]
 have h4 := World.alloc_heap_new ((w.alloc o1).alloc o2) o3
 have h5 := (Below.refl ((w.alloc o1).alloc o2).heap.size ((w.alloc o1).alloc o2)).alloc (Nat.le_refl _) o3
 rw [hs] at h4 h5
 exact ⟨(h5.block _ (by omega)).trans h1, (h5.block _ (by omega)).trans h2, h4, h3.trans (h5.mono (by omega))⟩
theorem clAtF_snoc {X n : Nat} {L : List (Nat × ByteArray)} (h : ∀ R, clAtF X (L ++ R) n = clAtF X R n) (p : Nat × ByteArray) : ∀ R, clAtF X ((L ++ [p]) ++ R) n = if X < p.1 + p.2.size then (p.1, p.1 + p.2.size) else clAtF X R n := fun R => by
 rw [List.append_assoc, h, List.singleton_append, clAtF]
set_option maxRecDepth 100000 in
set_option maxHeartbeats 1000000 in
theorem cAt_any (s : ByteArray) (hs : s.size ≤ 2097152) (x : Int) (w : World) (hT : T8 w) :
 Calls Tryz.prog 13 #[.string s, .int .i64 x] w fun e w' => e = .returned (.tuple #[.int .i64 (clAt s x).1, .int .i64 (clAt s x).2]) ∧ Below w.heap.size w w' := by
 refine (callsIn_wide (n := 4)).1 ?_
 refine callsIn_of_wp_marks Tryz.func13 rfl trivial ?_ rfl
 simp only [Tryz.ntmps13, List.size_toArray, List.length_cons, List.length_nil, Nat.reduceAdd, Nat.reduceSub, Array.replicate_succ, Array.replicate_zero, List.push_toArray, List.append_toArray, List.nil_append, List.cons_append]
 obtain ⟨m0, hm0⟩ : ∃ m0, x.toNat = m0 := ⟨_, rfl⟩
 obtain ⟨X, hX⟩ : ∃ X, min m0 s.size = X := ⟨_, rfl⟩
 have e1 : max x 0 = (m0 : Int) := by omega
 have e2 : min (m0 : Int) (s.size : Int) = (X : Int) := by omega
 have hcl : clAt s x = clAtF X (piecesI s) s.size := by unfold clAt; rw [hm0, hX]
 rw [hcl]
 have hXs : X ≤ s.size := by omega
 clear hm0 hX hcl
 gi_upto_region 1 with (fail)
 obtain ⟨j1, j2, j3, hb0⟩ := alloc3 w (.cells #[.int .i64 x] 3 (0, 0)) (.cells #[.int .i64 0] 3 (0, 0)) (.cells #[.int .i64 0] 3 (0, 0))
 have hs0 : (((w.alloc (.cells #[.int .i64 x] 3)).alloc (.cells #[.int .i64 0] 3)).alloc (.cells #[.int .i64 0] 3)).heap.size = w.heap.size + 3 := by rw [World.size_alloc, World.size_alloc, World.size_alloc]
 generalize ((w.alloc (.cells #[.int .i64 x] 3)).alloc (.cells #[.int .i64 0] 3)).alloc (.cells #[.int .i64 0] 3) = W0 at j1 j2 j3 hb0 hs0 ⊢
 have k1 : Boxed W0 w.heap.size 3 (.int .i64 x) := j1
 have k2 : Boxed W0 (w.heap.size + 1) 3 (.int .i64 0) := j2
 have k3 : Boxed W0 (w.heap.size + 1 + 1) 3 (.int .i64 0) := j3
 clear j1 j2 j3
 have c1 := k1.cell
 have f1 := k1.frozen
 gi_upto_region 2 with (fail)
 have hb1 : Below w.heap.size w (W0.setCell ⟨w.heap.size, 0, none⟩ (.int .i64 X)) := hb0.setCell (p := ⟨w.heap.size, 0, none⟩) (Nat.le_refl _) _
 have q1 : Boxed (W0.setCell ⟨w.heap.size, 0, none⟩ (.int .i64 X)) w.heap.size 3 (.int .i64 X) := set_at k1 _
 have q2 : Boxed (W0.setCell ⟨w.heap.size, 0, none⟩ (.int .i64 X)) (w.heap.size + 1) 3 (.int .i64 0) := box_other k2 (by omega)
 have q3 : Boxed (W0.setCell ⟨w.heap.size, 0, none⟩ (.int .i64 X)) (w.heap.size + 1 + 1) 3 (.int .i64 0) := box_other k3 (by omega)
 have hs1 : (W0.setCell ⟨w.heap.size, 0, none⟩ (.int .i64 X)).heap.size = w.heap.size + 3 := by
  have := (KeepsWalks.setCell W0 ⟨w.heap.size, 0, none⟩ (.int .i64 X)).size
  show (W0.heap.modify _ _).size = _
  rw [Array.size_modify, hs0]
 generalize W0.setCell ⟨w.heap.size, 0, none⟩ (.int .i64 X) = W1 at hb1 q1 q2 q3 hs1 ⊢
 clear k1 k2 k3 c1 f1 hb0 hs0 W0
 gi_wp2_with (fail)
 refine ⟨trivial, ?_⟩
 refine (callsIn_wide.2 (pieces_any s _)).mono ?_
 rintro e' W3 ⟨rfl, hW3⟩
 obtain ⟨n, hn⟩ : ∃ n, w.heap.size + 3 = n := ⟨_, rfl⟩
 have hb3 : Below W1.heap.size W1 W3 := hW3 ▸ (Below.refl _ _).alloc (Nat.le_refl _) _
 have hbs : Boxed W3 n 9 (.string s) := by rw [← hn, ← hs1, hW3]; exact World.alloc_heap_new W1 _
 have hs3 : W3.heap.size = n + 1 := by rw [hW3, World.size_alloc, hs1, hn]
 have r1 : Boxed W3 w.heap.size 3 (.int .i64 X) := (hb3.block _ (by omega)).trans q1
 have r2 : Boxed W3 (w.heap.size + 1) 3 (.int .i64 0) := (hb3.block _ (by omega)).trans q2
 have r3 : Boxed W3 (w.heap.size + 1 + 1) 3 (.int .i64 0) := (hb3.block _ (by omega)).trans q3
 have hb03 : Below w.heap.size w W3 := hb1.trans (hb3.mono (by omega))
 clear hW3 hb3 q1 q2 q3 hb1
 simp only [hs1, hn]
 have hT3 : T8 W3 := hT.below rfl hb03
 have h3 : Tryz.lays197_ren.g 3 < w.heap.size := cell_lt (hT.1 0 (by omega))
 have h4 : Tryz.lays197_ren.g 4 < w.heap.size := cell_lt (hT.2 0 (by omega)).1
 unfold itV
 gi_wp2_with (fail)
 refine wpIn_rangeFunc_ownF (F := Fence.wide) rfl (by omega) (gf := 54) (lb := #[.pointer (some ⟨n, 0, none⟩)]) rfl trivial (enters_of Tryz.func54 (by kernel_rfl) rfl)
  (pieces_stops 3 (by omega) n w.heap.size s (by omega) h3 h4 W3 (by omega) hbs.cell hT3) (fun h k => KpB.trans h k) (kpB_put (w := W3) (by omega)) (Below.refl _ _) (fun _ => rfl)
  (AtJ w X n s) (AtY w X s) ?hI ?hIx ?h0
  (fun x' => { tmps := #[.string s, .int .i64 x, undef, .pointer (some ⟨w.heap.size, 0, none⟩), .pointer (some ⟨w.heap.size + 1, 0, none⟩), .pointer (some ⟨w.heap.size + 1 + 1, 0, none⟩), .int .i64 x'.1.1, .string x'.1.2, .int .i64 x, .int .i64 m0, .string s, .int .i64 s.size, .int .i64 X, .string s, (.func (.func 54) #[] #[.pointer (some ⟨n, 0, none⟩)]), .int .i64 x'.1.1, .string x'.1.2, undef, undef, undef, undef, undef, undef, undef, undef, undef, undef, undef, undef, undef, undef, undef], defers := [] }) ?assign ?body ?done ?stop
 case hI =>
  rintro pre A B row ⟨a1, a2, a3, a4, a5, a6⟩ hg hrow
  have hr := fun k e => (hrow k e).2
  exact ⟨box_kept a1 hg hr, box_kept a2 hg hr, box_kept a3 hg hr, box_kept a4 hg hr, a5, a6.grown hg (by have := a6.size; omega) (fun k e => by have := (hrow k e).1; omega)⟩
 case hIx =>
  rintro c pre A B row ⟨h0, e, a1, a2, a3, a9⟩ hg hrow
  have hr := fun k e => (hrow k e).2
  exact ⟨h0, e, a1, box_kept a2 hg hr, box_kept a3 hg hr, a9.grown hg (by have := a9.size; omega) (fun k e => by have := (hrow k e).1; omega)⟩
 case h0 => exact ⟨r1, r2, r3, hbs, fun R => by simp, hb03⟩
 case assign =>
  intro l x' W K hK
  gi_wp2_with (fail)
  exact hK
 case body =>
  rintro l pre x' W ⟨a1, a2, a3, a4, a5, a6⟩ hlt
  obtain ⟨at', hat⟩ : ∃ a, x'.1.1 = a := ⟨_, rfl⟩
  obtain ⟨c, hcc⟩ : ∃ c, x'.1.2 = c := ⟨_, rfl⟩
  have hx := x'.2
  rw [hat, hcc] at hx
  simp only [hat, hcc]
  have hsn := clAtF_snoc a5 x'.1
  rw [hat, hcc] at hsn
  have hsn2 : ∀ R, clAtF X ((pre ++ [x']).map (·.1) ++ R) s.size = if X < at' + c.size then (at', at' + c.size) else clAtF X R s.size := fun R => by
   rw [List.map_append, List.map_singleton]
   exact hsn R
  have c1 := a1.cell
  have c2 := a2.cell
  have c3 := a3.cell
  have f2 := a2.frozen
  have f3 := a3.frozen
  have A1 := Lib.hid a1
  have A2 := Lib.hid a2
  have A3 := Lib.hid a3
  have A4 := Lib.hid a4
  have A6 := Lib.hid a6
  have HSN := Lib.hid hsn2
  have g1 : (at' : Int) ≤ 2097152 := by omega
  have g2 : (c.size : Int) ≤ 2097152 := by omega
  clear a1 a2 a3 a4 a5 a6 hsn hsn2 hat hcc hx hlt r1 r2 r3 hbs hb03 hT3 e1 e2
  by_cases hc : X < at' + c.size
  ·have hd : (X : Int) < (at' : Int) + (c.size : Int) := by omega
   have HE := Lib.hid (fun R => (HSN.out R).trans (if_pos hc))
   clear hc HSN
   gi_wp2_with (fail)
   refine ⟨(KeepsOthers.setCell _ _ _).trans (KeepsOthers.setCell _ _ _), ?_⟩
   exact ⟨rfl, (at', at' + c.size), HE.out, box_other (set_at A2.out _) (by omega), set_at (box_other A3.out (by omega)) _,
    (A6.out.setCell (p := ⟨w.heap.size + 1, 0, none⟩) (Nat.le_succ _) _).setCell (p := ⟨w.heap.size + 1 + 1, 0, none⟩) (Nat.le_trans (Nat.le_succ _) (Nat.le_succ _)) _⟩
  ·have hd : ¬ ((X : Int) < (at' : Int) + (c.size : Int)) := by omega
   have HE := Lib.hid (fun R => (HSN.out R).trans (if_neg hc))
   clear hc HSN
   gi_wp2_with (fail)
   refine ⟨KeepsOthers.refl _, ⟨Below.refl _ _, fun v hv => hv⟩, A1.out, A2.out, A3.out, A4.out, HE.out, A6.out⟩
 case done =>
  rintro D xs W hD hxs ⟨a1, a2, a3, a4, a5, a6⟩ hK
  have hfin : clAtF X (piecesI s) s.size = (s.size, s.size) := by
   have := a5 []
   rw [List.append_nil, hxs] at this
   rw [this, clAtF]
  have c2 := a2.cell
  have c3 := a3.cell
  have f2 := a2.frozen
  have f3 := a3.frozen
  have A2 := Lib.hid a2
  have A3 := Lib.hid a3
  have A6 := Lib.hid a6
  have HF := Lib.hid hfin
  clear a1 a2 a3 a4 a5 a6 hfin hxs r1 r2 r3 hbs hb03 hT3 e1 e2
  gi_wp2_with (fail)
  have s2 : Boxed ((W.setCell ⟨w.heap.size + 1, 0, none⟩ (.int .i64 s.size)).setCell ⟨w.heap.size + 1 + 1, 0, none⟩ (.int .i64 s.size)) (w.heap.size + 1) 3 (.int .i64 s.size) := box_other (set_at A2.out _) (by omega)
  have s3 : Boxed ((W.setCell ⟨w.heap.size + 1, 0, none⟩ (.int .i64 s.size)).setCell ⟨w.heap.size + 1 + 1, 0, none⟩ (.int .i64 s.size)) (w.heap.size + 1 + 1) 3 (.int .i64 s.size) := set_at (box_other A3.out (by omega)) _
  have s9 : Below w.heap.size w ((W.setCell ⟨w.heap.size + 1, 0, none⟩ (.int .i64 s.size)).setCell ⟨w.heap.size + 1 + 1, 0, none⟩ (.int .i64 s.size)) := (A6.out.setCell (p := ⟨w.heap.size + 1, 0, none⟩) (Nat.le_succ _) _).setCell (p := ⟨w.heap.size + 1 + 1, 0, none⟩) (Nat.le_trans (Nat.le_succ _) (Nat.le_succ _)) _
  have sK : ((W.setCell ⟨w.heap.size + 1, 0, none⟩ (.int .i64 s.size)).setCell ⟨w.heap.size + 1 + 1, 0, none⟩ (.int .i64 s.size)).heap[D]? = some (.deferred (some [])) := box_other (box_other hK (by omega)) (by omega)
  generalize (W.setCell ⟨w.heap.size + 1, 0, none⟩ (.int .i64 s.size)).setCell ⟨w.heap.size + 1 + 1, 0, none⟩ (.int .i64 s.size) = W5 at s2 s3 s9 sK ⊢
  refine ⟨by simp, .inl ⟨_, _, rfl, run_takeDeferred sK, ?_⟩⟩
  refine ⟨_, at_results rfl rfl (box_kept s2 (grownBy_putObj' W5 D (.deferred none)) (fun r e => by cases e; exact ⟨_, sK, rfl⟩)) (box_kept s3 (grownBy_putObj' W5 D (.deferred none)) (fun r e => by cases e; exact ⟨_, sK, rfl⟩)), ?_, ?_⟩
  ·rw [HF.out]
  ·exact s9.trans (belowK_b (w := w) (Nat.le_refl _) W5 D _ _ (by omega) sK rfl rfl)
 case stop =>
  rintro D c pre W hD hSp ⟨rfl, r, a1, a2, a3, a9⟩ hK
  have hfin : clAtF X (piecesI s) s.size = r := by
   obtain ⟨R, hR⟩ := hSp
   have := a1 R
   rw [hR] at this
   exact this
  dsimp only
  clear r1 r2 r3 hbs hb03 hT3 e1 e2
  gi_wp2_with (fail)
  refine ⟨by simp, .inl ⟨_, _, rfl, run_takeDeferred hK, ?_⟩⟩
  refine ⟨_, at_results rfl rfl (box_kept a2 (grownBy_putObj' W D (.deferred none)) (fun r e => by cases e; exact ⟨_, hK, rfl⟩)) (box_kept a3 (grownBy_putObj' W D (.deferred none)) (fun r e => by cases e; exact ⟨_, hK, rfl⟩)), ?_, ?_⟩
  ·rw [hfin]
  ·exact a9.trans (belowK_b (w := w) (Nat.le_refl _) W D _ _ (by omega) hK rfl rfl)
end
end Go.Proofs.YtlbclfmbejjneaaGreatDoor
