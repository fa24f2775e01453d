/- Contracts of cluster.ends and cluster.Count. Condition: utf8's two tables stand where start-up lays them. -/
import Derived.Test.YtphlhnkenehnnaaGreatDoorBrkA
import Derived.Maps.AppendAt
namespace Go.Proofs.YtphlhnkenehnnaaGreatDoor
set_option linter.unusedVariables false
set_option linter.unusedSimpArgs false
open Go.RowKit Go.Proofs Go.Shelf
attribute [local go_sem] Oper.semAt_some

/-- the ends of pieces -/
def endsF (xs : List (Nat × ByteArray)) : List Int := xs.map fun p => ((p.1 + p.2.size : Nat) : Int)
theorem piecesF_len (s : ByteArray) : ∀ (f a : Nat), (piecesF s f a).length ≤ f
  | 0, a => Nat.le_refl _
  | f + 1, a => by
    rw [piecesF]
    split
    · rw [List.length_cons]; exact Nat.succ_le_succ (piecesF_len s f _)
    · exact Nat.zero_le _
theorem pieces_len (s : ByteArray) : (piecesI s).length ≤ s.size := piecesF_len s s.size 0
theorem kpB_put {w : World} {Bn n₀ : Nat} (hn : n₀ ≤ w.heap.size) (W : World) (l : Nat) (o o' : Obj) (hl : w.heap.size ≤ l) (h : W.heap[l]? = some o) (hc : o.isCells = false) (hw : o.isWalk = false) : KpB Bn n₀ W (W.putObj l o') :=
  ⟨belowK_b hn W l o o' hl h hc hw, fun v hv => cell_kept hv (grownBy_putObj' W l o') (fun r e => by cases e; exact ⟨o, h, hc⟩)⟩
theorem Tryz.info_int8 : (Tryz.prog.info? 3).map (fun i => (i.zero, i.size, i.bytes)) = some (some (.int .i64 0), 1, 8) := by kernel_rfl
def EndsI (s : ByteArray) (w : World) (pre : List (PieceOf s)) (W : World) : Prop :=
  (∃ v, Boxed W w.heap.size 70 v ∧ W.ownsRow w.heap.size 3 1 v pre.length ((endsF (pre.map (·.1))).map (Value.int .i64))) ∧ Boxed W (w.heap.size + 1) 9 (.string s) ∧ Below w.heap.size w W
set_option maxRecDepth 100000 in
set_option maxHeartbeats 400000 in
theorem ends_any (s : ByteArray) (w : World) (hT : T8 w) (hs : s.size ≤ 2097152) :
    Calls Tryz.prog 34 #[.string s] w fun e w' => ∃ a c, e = .returned (.slice a (piecesI s).length c) ∧ OutAt .i64 3 w' w.heap.size a c (endsF (piecesI s)) ∧ Below w.heap.size w w' := by
  obtain ⟨i0, hi0, hz0, hz1, hz2⟩ := info_parts Tryz.info_int8
  refine (callsIn_wide (n := 4)).1 ?_
  refine callsIn_of_wp_marks Tryz.func34 rfl trivial ?_ rfl
  simp only [Tryz.ntmps34, List.size_toArray, List.length_cons, List.length_nil, Nat.reduceAdd, Nat.reduceSub, Array.replicate_succ, Array.replicate_zero, List.push_toArray, List.append_toArray, List.nil_append, List.cons_append]
  gi_wp2_with (fail)
  refine ⟨trivial, ?_⟩
  refine (callsIn_wide.2 (pieces_any s _)).mono ?_
  rintro e' W0 ⟨rfl, hW0⟩
  rw [World.size_alloc]
  have hb0 : Below w.heap.size w W0 := by rw [hW0]; exact ((Below.refl _ w).alloc (Nat.le_refl _) _).alloc (by simp) _
  have hbox : Boxed W0 w.heap.size 70 (.slice none 0 0) := by rw [hW0]; exact (Boxed.new w _ _).alloc _
  have hcb : Boxed W0 (w.heap.size + 1) 9 (.string s) := by
    have := Boxed.new (w.alloc (.cells #[.slice none 0 0] 70)) 9 (.string s)
    rw [World.size_alloc] at this
    rw [hW0]; exact this
  have hsz : W0.heap.size = w.heap.size + 2 := by rw [hW0, World.size_alloc, World.size_alloc]
  clear hW0
  have hT0 := hT.below rfl hb0
  unfold itV
  gi_wp2_with (fail)
  have h3 : Tryz.lays197_ren.g 3 < w.heap.size := cell_lt (hT.1 0 (by omega))
  have h4 : Tryz.lays197_ren.g 4 < w.heap.size := cell_lt (hT.2 0 (by omega)).1
  refine wpIn_rangeFunc_ownF (F := Fence.wide) rfl (by omega) (gf := 110) (lb := #[.pointer (some ⟨w.heap.size + 1, 0, none⟩)]) rfl trivial (enters_of Tryz.func110 (by kernel_rfl) rfl)
    (pieces_stops 3 (by omega) (w.heap.size + 1) w.heap.size s (by omega) h3 h4 W0 hb0.size hcb.cell hT0) (fun h k => KpB.trans h k) (kpB_put hb0.size) (Below.refl _ _) (fun _ => rfl) (EndsI s w) (fun _ _ _ => False) ?hI (fun _ _ _ _ _ hs _ _ => hs) ?h0
    (fun x => { tmps := #[.string s, undef, .slice none 0 0, .pointer (some ⟨w.heap.size, 0, none⟩), .int .i64 x.1.1, .string x.1.2, .string s, .func (.func 110) #[] #[.pointer (some ⟨w.heap.size + 1, 0, none⟩)], .int .i64 x.1.1, .string x.1.2, undef, undef, undef, undef, undef, undef, undef, undef], defers := [] }) ?assign ?body ?done ?stop
  case hI =>
    rintro pre A B row ⟨⟨v, hv, hr⟩, hbx, hB⟩ hg hrow
    have hne : ∀ {b t : Nat} {u : Value}, Boxed A b t u → some b ≠ row := fun hb e => by
      obtain ⟨_, o, ho, hc⟩ := hrow _ e.symm
      rw [show A.heap[_]? = _ from hb] at ho
      cases ho; cases hc
    refine ⟨⟨v, hv.kept hg (hne hv), hr.kept hg ?_⟩, hbx.kept hg (hne hbx), hB.grown hg (hB.size) (fun k e => ?_)⟩
    · rcases hr.2 with ⟨rfl, _⟩ | ⟨g, cap, cur, rfl, _, hgb, _⟩
      · exact .inl rfl
      · refine .inr fun e' => ?_
        obtain ⟨_, o, ho, hc⟩ := hrow g (by simpa [Value.ownBlock] using e'.symm)
        rw [hgb] at ho; cases ho; cases hc
    · have := (hrow k e).1; omega
  case h0 => exact ⟨⟨_, hbox, World.ownsRow_nil _ _ _ _⟩, hcb, hb0⟩
  case assign =>
    intro l x W K hK
    gi_wp2_with (fail)
    exact hK
  case body =>
    rintro l pre x W ⟨⟨v, hv, hr⟩, hbx, hB⟩ hlt
    have hx' := x.2
    obtain ⟨at', hat⟩ : ∃ a, x.1.1 = a := ⟨_, rfl⟩
    obtain ⟨c, hcc⟩ : ∃ c, x.1.2 = c := ⟨_, rfl⟩
    rw [hat, hcc] at hx'
    simp only [hat, hcc]
    have hpl := pieces_len s
    obtain ⟨k, hk⟩ : ∃ k, pre.length = k := ⟨_, rfl⟩
    rw [hk] at hr hlt
    have hk2 : k + 1 ≤ 2097152 := by omega
    obtain ⟨e, he⟩ : ∃ e, at' + c.size = e := ⟨_, rfl⟩
    have ew : wrap64 ((at' : Int) + (c.size : Int)) = (e : Int) := by unfold wrap64; clear hr hv hbx hB; omega
    have hc := hv.cell
    have HE := Lib.hid he
    have HK := Lib.hid hk
    have hsize := hB.size
    have HA := Lib.hid hat
    have HC := Lib.hid hcc
    clear he hk hpl hlt hx' hsz hat hcc
    gi_wp2_with (gi_at_builtin; refine wpListIn_append_own _ rfl _ _ 70 rfl w.heap.size 3 i0 (.int .i64 0) 1 8 Tryz.underlying70 hi0 hz0 hz1 hz2 rfl (by decide) _ _ _ rfl (hr.alloc _) ⟨W.heap.size, 0, none⟩ 1 1 [.int .i64 e] rfl rfl (by first | exact cell_one_new _ _ _ | (rw [← ew]; exact cell_one_new _ _ _)) (by simp [Value.oneCell']) (by unfold maxLen; omega) (by omega) (by simp; omega) ?_; intro v' w1 hown' hgrow _; obtain ⟨g', cap', rfl⟩ := ownsRow_succ hown'; obtain ⟨hv1, hv2, hr2, hk2', hb2⟩ := hv.appended (by decide) hr hB.size (Nat.le_refl _) hown' hgrow; have hc1 := hv1.cell; have hf1 := hv1.frozen)
    have hbx1 : Boxed w1 (w.heap.size + 1) 9 (.string s) := (hbx.alloc _).kept hgrow (hbx.not_row (by decide) hr)
    have hbx2 := hbx1.other (B' := w.heap.size) (by omega) (.slice (some ⟨g', 0, none⟩) (k + 1) cap')
    refine ⟨hk2', ⟨hb2, fun u hu => ?_⟩, ⟨⟨_, hv2, ?_⟩, hbx2, hB.trans hb2⟩⟩
    · rw [hbx.cell] at hu
      cases hu
      exact hbx2.cell
    · rw [List.length_append, HK.out, List.map_append]
      unfold endsF at hr2 ⊢
      rw [List.map_append, List.map_append]
      rw [show List.map (Value.int .i64) (List.map (fun p => ((p.1 + p.2.size : Nat) : Int)) (List.map (fun x : PieceOf s => x.1) [x])) = [.int .i64 (e : Int)] by simp [← HE.out, HA.out, HC.out]]
      exact hr2
  case done =>
    rintro D xs W hD hxs ⟨⟨v, hv, hr⟩, hbx, hB⟩ hK
    have hc := hv.cell
    have hlen : xs.length = (piecesI s).length := by rw [← hxs, List.length_map]
    rw [hxs, hlen] at hr
    have hel : (endsF (piecesI s)).length = (piecesI s).length := by unfold endsF; rw [List.length_map]
    obtain ⟨ao, cap, rfl, hO⟩ := OutAt.of hr hel
    gi_wp2_with (fail)
    refine ⟨by simp, .inl ⟨_, _, rfl, run_takeDeferred hK, ?_⟩⟩
    exact ⟨_, results_tmp rfl _ _ _, ao, cap, rfl, ownsRow_putObj hO _ hK rfl, hB.trans (belowK_b (w := w) (Nat.le_refl _) W D _ _ (by omega) hK rfl rfl)⟩
  case stop =>
    rintro D c pre W hD _ h _
    exact h.elim
end Go.Proofs.YtphlhnkenehnnaaGreatDoor
