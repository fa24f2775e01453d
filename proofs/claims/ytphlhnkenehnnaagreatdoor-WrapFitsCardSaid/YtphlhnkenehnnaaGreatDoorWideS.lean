/- Contract of show.Wide from column 0 on. Condition: utf8's two tables and math/bits' table stand where start-up lays them. -/
import Derived.Test.YtphlhnkenehnnaaGreatDoorText
import Derived.Test.YtphlhnkenehnnaaGreatDoorRq
import Derived.Test.YtphlhnkenehnnaaGreatDoorPlainW
import Derived.Test.YtphlhnkenehnnaaGreatDoorCnt
namespace Go.Proofs.YtphlhnkenehnnaaGreatDoor
set_option linter.unusedVariables false
set_option linter.unusedSimpArgs false
open Go.RowKit Go.Proofs Go.Shelf
attribute [local go_sem] Oper.semAt_some

/-- show.Wide's boxes -/
def WdB (W : World) (b : Nat) (tab want x : Int) (wideA join raw : Bool) : Prop :=
  Boxed W b 3 (.int .i64 0) ∧ W.heap[b + 1]? = some (.cells #[.int .i64 tab, .bool wideA, .int .i8 want, .bool join, .bool raw] 24 (0, 0)) ∧ Boxed W (b + 1 + 1) 3 (.int .i64 x)
section
variable {W W' : World} {b : Nat} {tab want x : Int} {wideA join raw : Bool}
theorem WdB.look (h : WdB W b tab want x wideA join raw) : W.cell? ⟨b + 1, 0, none⟩ = some (.int .i64 tab) ∧ W.cell? ⟨b + 1, 1, none⟩ = some (.bool wideA) ∧ W.cell? ⟨b + 1, 2, none⟩ = some (.int .i8 want) ∧ W.cell? ⟨b + 1, 3, none⟩ = some (.bool join) ∧ W.cell? ⟨b + 1, 4, none⟩ = some (.bool raw) := by
  obtain ⟨_, h1, _⟩ := h
  refine ⟨?_, ?_, ?_, ?_, ?_⟩ <;> simp [World.cell?, h1]
theorem WdB.lt (h : WdB W b tab want x wideA join raw) : b + 2 < W.heap.size := (Array.getElem?_eq_some_iff.1 h.2.2).1
theorem WdB.below (h : WdB W b tab want x wideA join raw) (hb : Below W.heap.size W W') : WdB W' b tab want x wideA join raw := by
  have := h.lt
  exact ⟨(hb.block b (by omega)).trans h.1, (hb.block (b + 1) (by omega)).trans h.2.1, (hb.block (b + 1 + 1) (by omega)).trans h.2.2⟩
theorem WdB.kept (h : WdB W b tab want x wideA join raw) {row : Option Nat} (hg : W.grownBy W' row) (hrow : ∀ k, row = some k → ∃ o, W.heap[k]? = some o ∧ o.isCells = false) : WdB W' b tab want x wideA join raw := by
  refine ⟨box_kept h.1 hg hrow, ?_, box_kept h.2.2 hg hrow⟩
  refine (hg.block _ (Array.getElem?_eq_some_iff.1 h.2.1).1 (fun e => ?_)).trans h.2.1
  obtain ⟨o, ho, hc⟩ := hrow _ e.symm
  rw [h.2.1] at ho
  cases ho; cases hc
theorem WdB.set (h : WdB W b tab want x wideA join raw) (y : Int) : WdB (W.setCell ⟨b + 1 + 1, 0, none⟩ (.int .i64 y)) b tab want y wideA join raw :=
  ⟨box_other h.1 (by omega), box_other h.2.1 (by omega), set_at h.2.2 _⟩
theorem WdB.drew (h : WdB W b tab want x wideA join raw) : WdB W.drew b tab want x wideA join raw := h
theorem WdB.set0 (h : WdB W b tab want x wideA join raw) (y : Int) (hy : y = 0) : WdB (W.setCell ⟨b, 0, none⟩ (.int .i64 y)) b tab want x wideA join raw := by
  subst hy
  exact ⟨set_at h.1 _, box_other h.2.1 (by omega), box_other h.2.2 (by omega)⟩
end
theorem three_boxes (w : World) (tab want : Int) (wideA join raw : Bool) :
    WdB (((w.alloc (.cells #[.int .i64 0] 3)).alloc (.cells #[.int .i64 tab, .bool wideA, .int .i8 want, .bool join, .bool raw] 24)).alloc (.cells #[.int .i64 0] 3)) w.heap.size tab want 0 wideA join raw ∧
      Below w.heap.size w (((w.alloc (.cells #[.int .i64 0] 3)).alloc (.cells #[.int .i64 tab, .bool wideA, .int .i8 want, .bool join, .bool raw] 24)).alloc (.cells #[.int .i64 0] 3)) := by
  obtain ⟨h1, h2, h3⟩ := two_alloc w (.cells #[.int .i64 0] 3 (0, 0)) (.cells #[.int .i64 tab, .bool wideA, .int .i8 want, .bool join, .bool raw] 24 (0, 0))
  have hs : ((w.alloc (.cells #[.int .i64 0] 3)).alloc (.cells #[.int .i64 tab, .bool wideA, .int .i8 want, .bool join, .bool raw] 24)).heap.size = w.heap.size + 2 := by rw [World.size_alloc, World.size_alloc]
  have h4 := World.alloc_heap_new ((w.alloc (.cells #[.int .i64 0] 3)).alloc (.cells #[.int .i64 tab, .bool wideA, .int .i8 want, .bool join, .bool raw] 24)) (.cells #[.int .i64 0] 3)
  have h5 := (Below.refl ((w.alloc (.cells #[.int .i64 0] 3)).alloc (.cells #[.int .i64 tab, .bool wideA, .int .i8 want, .bool join, .bool raw] 24)).heap.size ((w.alloc (.cells #[.int .i64 0] 3)).alloc (.cells #[.int .i64 tab, .bool wideA, .int .i8 want, .bool join, .bool raw] 24))).alloc (Nat.le_refl _) (.cells #[.int .i64 0] 3)
  rw [hs] at h4 h5
  exact ⟨⟨(h5.block _ (by omega)).trans h1, (h5.block _ (by omega)).trans h2, h4⟩, h3.trans (h5.mono (by omega))⟩
/-- between two rounds of show.Wide -/
def WdJ (s : ByteArray) (w : World) (n : Nat) (tab want : Int) (wideA join raw : Bool) (pre : List (PieceOf s)) (W : World) : Prop :=
  WdB W w.heap.size tab want (wideF tab wideA raw (pre.map (·.1.2)) 0) wideA join raw ∧ Boxed W n 9 (.string s) ∧ Below w.heap.size w W
set_option maxRecDepth 100000 in
set_option maxHeartbeats 1000000 in
theorem wide_any (s : ByteArray) (hz : s.size ≤ 2097152) (tab want : Int) (wideA join raw : Bool) (w : World) (hT : T8 w) (hD : DB w) :
    Calls Tryz.prog 21 #[.string s, .int .i64 0, lookV tab want wideA join raw] w fun e w' => e = .returned (.int .i64 (wideF tab wideA raw ((piecesI s).map (·.2)) 0)) ∧ Below w.heap.size w w' := by
  refine (callsIn_wide (n := 4)).1 ?_
  refine callsIn_of_wp_marks Tryz.func21 rfl trivial ?_ rfl
  simp only [Tryz.ntmps21, List.size_toArray, List.length_cons, List.length_nil, Nat.reduceAdd, Nat.reduceSub, Array.replicate_succ, Array.replicate_zero, List.push_toArray, List.append_toArray, List.nil_append, List.cons_append]
  gi_upto_region 2 with (fail)
  obtain ⟨hw0, hb0⟩ := three_boxes w tab want wideA join raw
  generalize ((w.alloc (.cells #[.int .i64 0] 3)).alloc (.cells #[.int .i64 tab, .bool wideA, .int .i8 want, .bool join, .bool raw] 24)).alloc (.cells #[.int .i64 0] 3) = W0 at hw0 hb0 ⊢
  obtain ⟨f0, f1, f2, f3, f4⟩ := hw0.look
  have kc := hw0.1.cell
  have kf := hw0.1.frozen
  have HST : Hid (∀ W, WdB W w.heap.size tab want 0 wideA join raw → Below w.heap.size w W → Calls Tryz.prog 35 #[.int .i64 0, lookV tab want wideA join raw] W fun e w' => e = .returned (.int .i64 (stopI 0 tab)) ∧ WdB w' w.heap.size tab want 0 wideA join raw ∧ Below w.heap.size w w') :=
    Lib.hid fun W h0 hb => (stop_any 0 tab want wideA join raw W).mono fun e w' ⟨h1, h2⟩ => ⟨h1, h0.below h2, hb.trans (h2.mono hb.size)⟩
  have HK : Hid (∀ W, WdB W w.heap.size tab want 0 wideA join raw → Below w.heap.size w W → W.cell? ⟨w.heap.size, 0, none⟩ = some (.int .i64 0) ∧ W.cell? ⟨w.heap.size + 1, 0, none⟩ = some (.int .i64 tab) ∧ W.cell? ⟨w.heap.size + 1, 1, none⟩ = some (.bool wideA) ∧ W.cell? ⟨w.heap.size + 1, 2, none⟩ = some (.int .i8 want) ∧ W.cell? ⟨w.heap.size + 1, 3, none⟩ = some (.bool join) ∧ W.cell? ⟨w.heap.size + 1, 4, none⟩ = some (.bool raw) ∧ W.frozen? ⟨w.heap.size, 0, none⟩ = false ∧ WdB W w.heap.size tab want 0 wideA join raw ∧ Below w.heap.size w W) :=
    Lib.hid fun W h hb => ⟨h.1.cell, h.look.1, h.look.2.1, h.look.2.2.1, h.look.2.2.2.1, h.look.2.2.2.2, h.1.frozen, h, hb⟩
  have HT : Hid (∀ W, Below w.heap.size w W → T8 W) := Lib.hid fun W hb => hT.below rfl hb
  have HD : Hid (∀ W, Below w.heap.size w W → DB W) := Lib.hid fun W hb => hD.below hb
  obtain ⟨v, hv⟩ : ∃ v, stopI 0 tab = v := ⟨_, rfl⟩
  rw [hv] at HST
  have hvb := stopI_bd 0 tab
  rw [hv] at hvb
  obtain ⟨hv0, hv1⟩ := hvb
  clear hv hT hD
  refine wpIn_wide.2 ?_
  go_region_held3 (fun w' => w'.cell? ⟨w.heap.size, 0, none⟩ = some (.int .i64 0) ∧ w'.cell? ⟨w.heap.size + 1, 0, none⟩ = some (.int .i64 tab) ∧ w'.cell? ⟨w.heap.size + 1, 1, none⟩ = some (.bool wideA) ∧ w'.cell? ⟨w.heap.size + 1, 2, none⟩ = some (.int .i8 want) ∧ w'.cell? ⟨w.heap.size + 1, 3, none⟩ = some (.bool join) ∧ w'.cell? ⟨w.heap.size + 1, 4, none⟩ = some (.bool raw) ∧ w'.frozen? ⟨w.heap.size, 0, none⟩ = false ∧ WdB w' w.heap.size tab want 0 wideA join raw ∧ Below w.heap.size w w')
    ((first | (exact HK.out _ (WdB.set0 hw1 _ (by first | rfl | decide | simp)) (hb1.setCell (p := ⟨w.heap.size, 0, none⟩) (Nat.le_refl _) _)) | (exact HK.out _ hw1 hb1) | (refine HK.out _ ?_ ?_ <;> repeat (first | assumption | refine WdB.drew ?_ | refine Below.drew ?_ | refine WdB.set0 ?_ _ (by first | rfl | decide | simp) | refine Below.setCell ?_ (Nat.le_refl _) _))))
    ((go_at_call 35; refine (HST.out _ (by repeat (first | assumption | refine WdB.drew ?_)) (by repeat (first | assumption | refine Below.drew ?_))).mono ?_; rintro e w1 ⟨rfl, hw1, hb1⟩))
  have hw3 : WdB (w1.setCell ⟨w.heap.size, 0, none⟩ (.int .i64 (IntKind.i64.wrap 0))) w.heap.size tab want 0 wideA join raw := WdB.set0 hw1 _ (by first | rfl | decide | simp)
  have hb3 : Below w.heap.size w (w1.setCell ⟨w.heap.size, 0, none⟩ (.int .i64 (IntKind.i64.wrap 0))) := hb1.setCell (p := ⟨w.heap.size, 0, none⟩) (Nat.le_refl _) _
  generalize w1.setCell ⟨w.heap.size, 0, none⟩ (.int .i64 (IntKind.i64.wrap 0)) = W3 at hw3 hb3 ⊢
  have HW3 := Lib.hid hw3
  have HB3 := Lib.hid hb3
  clear hw3 hb3 hw1 hb1 hw0 hb0 f0 f1 f2 f3 f4 kc kf HST HK
  gi_wp2_with (fail)
  refine ⟨trivial, ?_⟩
  refine (callsIn_wide.2 (All_any s _)).mono ?_
  rintro e' W4 ⟨rfl, hW4⟩
  obtain ⟨n, hn⟩ : ∃ n, W3.heap.size = n := ⟨_, rfl⟩
  have hb4 : Below W3.heap.size W3 W4 := hW4 ▸ (Below.refl _ _).alloc (Nat.le_refl _) _
  have hbs : Boxed W4 n 9 (.string s) := by rw [← hn, hW4]; exact World.alloc_heap_new W3 _
  have hs4 : W4.heap.size = n + 1 := by rw [hW4, World.size_alloc, hn]
  rw [hn]
  clear hW4
  unfold itV
  have hw4 := HW3.out.below hb4
  have hbw4 : Below w.heap.size w W4 := HB3.out.trans (hb4.mono HB3.out.size)
  have hT4 := HT.out _ hbw4
  have hlt4 := HW3.out.lt
  have hTT := HT.out w (Below.refl _ _)
  have h3 : Tryz.lays197_ren.g 3 < w.heap.size := cell_lt (hTT.1 0 (by omega))
  have h4 : Tryz.lays197_ren.g 4 < w.heap.size := cell_lt (hTT.2 0 (by omega)).1
  clear hTT HW3 HB3
  gi_wp2_with (fail)
  refine wpIn_rangeFunc_ownF (F := Fence.wide) rfl (by omega) (gf := 110) (lb := #[.pointer (some ⟨n, 0, none⟩)]) rfl trivial (enters_of Tryz.func110 (by kernel_rfl) rfl)
    (pieces_stops 3 (by omega) n w.heap.size s (by omega) h3 h4 W4 (by omega) hbs.cell hT4) (fun h k => KpB.trans h k) (kpB_put (w := W4) (by omega)) (Below.refl _ _) (fun _ => rfl)
    (WdJ s w n tab want wideA join raw) (fun _ _ _ => False) ?hI (fun _ _ _ _ _ hs _ _ => hs) ?h0
    (fun x => { tmps := #[.string s, .int .i64 0, lookV tab want wideA join raw, undef, .pointer (some ⟨w.heap.size, 0, none⟩), .pointer (some ⟨w.heap.size + 1, 0, none⟩), .int .i64 0, .pointer (some ⟨w.heap.size + 1 + 1, 0, none⟩), undef, .string x.1.2, undef, undef, .agg #[.int .i64 tab, .bool wideA, .int .i8 want, .bool join, .bool raw], .int .i64 v, .int .i64 0, .agg #[.int .i64 tab, .bool wideA, .int .i8 want, .bool join, .bool raw], .int .i64 v, .int .i64 (IntKind.i64.wrap 0), .string s, .func (.func 110) #[] #[.pointer (some ⟨n, 0, none⟩)], .int .i64 x.1.1, .string x.1.2, undef, undef, undef, undef, undef, undef, undef, undef, undef, undef, undef, undef, undef], defers := [] }) ?assign ?body ?done ?stop
  case hI =>
    rintro pre X Y row ⟨h1, h2, h3⟩ hg hrow
    exact ⟨h1.kept hg (fun k e => (hrow k e).2), box_kept h2 hg (fun k e => (hrow k e).2), h3.grown hg (by have := h3.size; omega) (fun k e => by have := (hrow k e).1; omega)⟩
  case h0 => exact ⟨hw4, hbs, hbw4⟩
  case assign =>
    intro l x W K hK
    gi_wp2_with (fail)
    exact hK
  case body =>
    rintro l pre x W ⟨h1, h2, h3⟩ hlt
    obtain ⟨c, hcc⟩ : ∃ c, x.1.2 = c := ⟨_, rfl⟩
    have hx := x.2
    rw [hcc] at hx
    simp only [hcc]
    have hpl := pieces_len s
    have hpx0 := wideF_le tab wideA raw (pre.map (·.1.2)) 0
    have hpx1 := wideF_up tab wideA raw (pre.map (·.1.2)) 0
    rw [List.length_map] at hpx1
    have hnext : wideF tab wideA raw ((pre ++ [x]).map (·.1.2)) 0 = wideF tab wideA raw (pre.map (·.1.2)) 0 + (textI c (wideF tab wideA raw (pre.map (·.1.2)) 0) tab wideA raw).2 := by
      rw [List.map_append, List.map_singleton, wideF_app, hcc]; rfl
    obtain ⟨px, hpx⟩ : ∃ px, wideF tab wideA raw (pre.map (·.1.2)) 0 = px := ⟨_, rfl⟩
    rw [hpx] at h1 hnext hpx0 hpx1
    have htb := textI_bd c px tab wideA raw
    have hTX := text_any c (by omega) px tab want wideA join raw W (HT.out _ h3) (HD.out _ h3)
    obtain ⟨q, hq⟩ : ∃ q, textI c px tab wideA raw = q := ⟨_, rfl⟩
    rw [hq] at hTX hnext htb
    obtain ⟨qs, qw⟩ := q
    obtain ⟨f0, f1, f2, f3, f4⟩ := h1.look
    have kc := h1.1.cell
    have kx := h1.2.2.cell
    have HTX := Lib.hid hTX
    have HNX := Lib.hid hnext
    have H1 := Lib.hid h1
    have H2 := Lib.hid h2
    have H3 := Lib.hid h3
    have hb0 : px ≤ 39845888 := by omega
    obtain ⟨hq0, hq1⟩ := htb
    dsimp only at hq0 hq1
    have hs2 : w.heap.size + 1 + 1 ≠ n := by omega
    clear hTX hnext h1 h2 h3 hpl hpx hq hx hlt hcc hw4 hbs hbw4 hT4 hb4
    gi_wp2_with (fail)
    refine ⟨trivial, ?_⟩
    refine (CallsIn.inRound l (callsIn_wide.2 HTX.out)).mono ?_
    rintro e' W5 ⟨rfl, hb5⟩
    have hw5 := H1.out.below hb5
    have kx5 := hw5.2.2.cell
    have kf5 := hw5.2.2.frozen
    have HW5 := Lib.hid hw5
    have HB5 := Lib.hid hb5
    clear hw5 hb5 f0 f1 f2 f3 f4 kc kx
    gi_wp2_with (fail)
    have hb6 : Below w.heap.size W (W5.setCell ⟨w.heap.size + 1 + 1, 0, none⟩ (.int .i64 (px + qw))) := (HB5.out.mono H3.out.size).setCell (p := ⟨w.heap.size + 1 + 1, 0, none⟩) (Nat.le_trans (Nat.le_succ _) (Nat.le_succ _)) _
    have h26 : Boxed (W5.setCell ⟨w.heap.size + 1 + 1, 0, none⟩ (.int .i64 (px + qw))) n 9 (.string s) := box_other ((HB5.out.block n (Array.getElem?_eq_some_iff.1 H2.out).1).trans H2.out) (fun e => hs2 e.symm)
    refine ⟨(keeps_below HB5.out).trans (KeepsOthers.setCell _ _ _), ⟨hb6, fun v hv => ?_⟩, ?_, h26, H3.out.trans hb6⟩
    · rw [H2.out.cell] at hv
      cases hv
      exact h26.cell
    · rw [HNX.out]
      exact HW5.out.set _
  case done =>
    rintro D xs W hD hxs ⟨h1, h2, h3⟩ hK
    have hc := h1.2.2.cell
    have hxw : wideF tab wideA raw (xs.map (·.1.2)) 0 = wideF tab wideA raw ((piecesI s).map (·.2)) 0 := by
      rw [← hxs, List.map_map]; rfl
    rw [hxw] at hc
    have H3 := Lib.hid h3
    clear h1 h2 h3 hxw
    gi_wp2_with (fail)
    refine ⟨by simp, .inl ⟨_, _, rfl, run_takeDeferred hK, ?_⟩⟩
    exact ⟨_, results_tmp rfl _ _ _, rfl, H3.out.trans (belowK_b (w := w) (Nat.le_refl _) W D _ _ (by omega) hK rfl rfl)⟩
  case stop =>
    rintro D c pre W hD _ h _
    exact h.elim
end Go.Proofs.YtphlhnkenehnnaaGreatDoor
