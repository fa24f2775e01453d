/- Part 46 of the proof (merged by a program out of the texts LawRH): lemmas of no further condition than each states. -/
import Derived.Lib.BufStepsIn
import Derived.Sort.QuietIn
import Derived.Sort.CutIn
import Derived.Test.YtlbclfmbejjneaaGreatDoorH45
namespace Go.Proofs.YtlbclfmbejjneaaGreatDoor
set_option linter.unusedVariables false
set_option linter.unusedSimpArgs false
section
open Go.RowKit Go.Proofs Go.Shelf
attribute [local go_sem] Oper.semAt_some
theorem rowF_below {W W' : World} {base e m : Nat} {v : Value} {xs : List Value} (h : W.ownsRowF base e 1 v m xs) (hb : Below W.heap.size W W') : W'.ownsRowF base e 1 v m xs := by
 refine ⟨h.1, h.2.imp id ?_⟩
 rintro ⟨g, cap, cur, fz, rfl, h1, h2, h3⟩
 exact ⟨g, cap, cur, fz, rfl, h1, (hb.block g (Array.getElem?_eq_some_iff.1 h2).1).trans h2, h3⟩
theorem rowF_slice {W : World} {base e m : Nat} {v : Value} {xs : List Value} (h : W.ownsRowF base e 1 v m xs) : ∃ a c, v = .slice a m c := by
 rcases h.2 with ⟨rfl, rfl⟩ | ⟨g, cap, cur, fz, rfl, _⟩
 ·exact ⟨_, _, rfl⟩
 ·exact ⟨_, _, rfl⟩
theorem conv_own {W : World} {base : Nat} {v : Value} {T : ByteArray} (h : W.ownsRowF base 5 1 v T.size (Lib.strCells T)) : (convert 42 9 v).run Tryz.prog W = .ok (.string T) W := by
 rcases h.2 with ⟨rfl, hz⟩ | ⟨g, cap, cur, fz, rfl, _, hg, _, _, _, _, htk⟩
 ·rw [Lib.run_convert_nil_bytes W _ _ _ _ Tryz.underlying42 Tryz.underlying5 Tryz.underlying9]
  have : T = ⟨#[]⟩ := ByteArray.ext (Array.eq_empty_of_size_eq_zero hz)
  rw [this]
 ·have hl : T.data.toList.length = T.size := by rw [Array.length_toList]; rfl
  have := run_convert_bytes_back (P := Tryz.prog) W 42 9 5 ⟨g, 0, none⟩ cap T.data.toList Tryz.underlying42 Tryz.underlying5 Tryz.underlying9 (Lib.bytes_of_row hg (by rw [hl]; rw [Nat.mul_one] at htk; exact htk))
  rw [hl, Array.toArray_toList] at this
  exact this
theorem sum_wH (a b : Int) (h1 : 0 ≤ a) (h2 : a ≤ 39845888) (h3 : 0 ≤ b) (h4 : b ≤ 19) : wrap64 (a + b) = a + b := by unfold wrap64; omega
theorem cells_app (a b : ByteArray) : Lib.strCells (a ++ b) = Lib.strCells a ++ Lib.strCells b := by
 unfold Lib.strCells
 simp
theorem ce_all2 {w : World} {base n c : Nat} {a : Option Addr} {l : List Ce} (hl : l.length = n) (hO : OwnS ceE 32 w base (.slice a n c) l) (i : Nat) (x : Ce) (hx : l[i]? = some x) :
 ∃ G, a = some ⟨G, 0, none⟩ ∧ w.cell? ⟨G, i * 6, none⟩ = some (.string x.text) ∧ w.cell? ⟨G, i * 6 + 1, none⟩ = some (.int .i8 x.part) ∧ w.cell? ⟨G, i * 6 + 2, none⟩ = some (.int .i64 x.a) ∧ w.cell? ⟨G, i * 6 + 3, none⟩ = some (.int .i64 x.len) ∧ w.cell? ⟨G, i * 6 + 4, none⟩ = some (.bool x.right) ∧ w.cell? ⟨G, i * 6 + 5, none⟩ = some (.int .u16 0) := by
 subst hl
 obtain ⟨G, eG, _, _, hc, _⟩ := hO.at i x hx
 exact ⟨G, eG, hc 0 _ rfl, hc 1 _ rfl, hc 2 _ rfl, hc 3 _ rfl, hc 4 _ rfl, hc 5 _ rfl⟩
def RhJ (C : Nat) (w7 : World) (tab : Int) (wideA : Bool) (pre : List (Nat × ByteArray)) (W : World) : Prop :=
 Boxed W C 3 (.int .i64 (saidF tab wideA true pre 0).2) ∧ (∃ v, Boxed W (C + 1) 42 v ∧ W.ownsRowF C 5 1 v (saidF tab wideA true pre 0).1.size (Lib.strCells (saidF tab wideA true pre 0).1)) ∧ Below C w7 W
theorem rowF_kept {W W' : World} {base e m : Nat} {v : Value} {xs : List Value} (h : W.ownsRowF base e 1 v m xs) {row : Option Nat} (hg : W.grownBy W' row) (hrow : ∀ g, v.ownBlock = some g → row ≠ some g) : W'.ownsRowF base e 1 v m xs := by
 refine ⟨h.1, h.2.imp id ?_⟩
 rintro ⟨g, cap, cur, fz, rfl, h1, h2, h3⟩
 exact ⟨g, cap, cur, fz, rfl, h1, (hg.block g (Array.getElem?_eq_some_iff.1 h2).1 (fun e => hrow g rfl e.symm)).trans h2, h3⟩
theorem ne_rowF {W : World} {base e m k t : Nat} {v : Value} {xs : List Value} {cs : Array Value} {f : Nat × Nat} (h : W.ownsRowF base e 1 v m xs) (hk : W.heap[k]? = some (.cells cs t f)) (hte : t ≠ e) : ∀ g, v.ownBlock = some g → g ≠ k := by
 rintro g hg rfl
 rcases h.2 with ⟨rfl, _⟩ | ⟨g', cap, cur, fz, rfl, _, hgb, _⟩
 ·cases hg
 ·cases hg
  rw [hk] at hgb
  cases hgb
  exact hte rfl
theorem lt_rowF {W : World} {base e m : Nat} {v : Value} {xs : List Value} (h : W.ownsRowF base e 1 v m xs) : ∀ g, v.ownBlock = some g → g < W.heap.size ∧ base ≤ g := by
 rintro g hg
 rcases h.2 with ⟨rfl, _⟩ | ⟨g', cap, cur, fz, rfl, hb, hgb, _⟩
 ·cases hg
 ·cases hg
  exact ⟨(Array.getElem?_eq_some_iff.1 hgb).1, hb⟩
set_option maxRecDepth 100000 in
set_option maxHeartbeats 4000000 in
theorem LawRH_any (s : ByteArray) (hs : s.size ≤ 2097152) (tab want : Int) (wideA join raw : Bool) (w : World) (hT : T8 w) (hD : DB w) :
 Calls Tryz.prog 4 #[.string s, lookV tab want wideA join raw] w fun e w' => e = .returned (.bool true) ∧ Below w.heap.size w w' := by
 obtain ⟨hp1, hp2⟩ := shown_plain s hs tab want wideA
 obtain ⟨q1, q2, _, _⟩ := straight_plain s tab want wideA false 0 s.size 1073741824
 have HC := Lib.hid (fun (W : World) (h : Below w.heap.size w W) => Cells_any s hs 0 s.size 0 1073741824 0 tab want wideA false true W (hT.below rfl h) (hD.below h) (raw_lv s want false 0 s.size) (lay_good s tab want wideA false true 0 s.size 1073741824))
 have HAL := Lib.hid (fun (W : World) (h : Below w.heap.size w W) => alive_any W (hT.below rfl h) (hD.below h))
 have HWL := Lib.hid (fun (W : World) => whole_any s 1073741824 0 W)
 obtain ⟨cs, hcs⟩ : ∃ cs, cellsI (layI s tab want wideA false true 0 s.size 1073741824) = cs := ⟨_, rfl⟩
 rw [hcs] at hp1 hp2 q1 q2 HC
 have HP1 := Lib.hid hp1
 have HP2 := Lib.hid hp2
 have HQ1 := Lib.hid q1
 have HPW : Hid (∀ (i : Nat) (x y : Ce), cs[i]? = some x → cs[i + 1]? = some y → x.a ≤ y.a) := Lib.hid fun i x y hx hy => by
  obtain ⟨h1, e1⟩ := List.getElem?_eq_some_iff.1 hx
  obtain ⟨h2, e2⟩ := List.getElem?_eq_some_iff.1 hy
  have := List.pairwise_iff_getElem.1 q2 i (i + 1) h1 h2 (by omega)
  rw [e1, e2] at this
  exact this
 obtain ⟨n, hn⟩ : ∃ n, cs.length = n := ⟨_, rfl⟩
 rw [hn] at HC
 have HT : Hid (∀ W, Below w.heap.size w W → T8 W ∧ DB W) := Lib.hid fun W hb => ⟨hT.below rfl hb, hD.below hb⟩
 unfold rowA5 at HC HWL
 clear hp1 hp2 q1 q2 hcs hT hD
 obtain ⟨i5, hi5, hz5, ha5, hby5⟩ := info_parts (Tryz.info_u8)
 refine (callsIn_wide (n := 4)).1 ?_
 refine callsIn_of_wp_marks Tryz.func4 rfl trivial ?_ rfl
 simp only [Tryz.ntmps4, List.size_toArray, List.length_cons, List.length_nil, Nat.reduceAdd, Nat.reduceSub, Array.replicate_succ, Array.replicate_zero, List.push_toArray, List.append_toArray, List.nil_append, List.cons_append]
 gi_upto_region 1 with (fail)
 have hb1 : Below w.heap.size w (w.alloc (.cells #[.int .i64 tab, .bool wideA, .int .i8 want, .bool join, .bool raw] 26)) := (Below.refl _ _).alloc (Nat.le_refl _) _
 have h1 := World.alloc_heap_new w (.cells #[.int .i64 tab, .bool wideA, .int .i8 want, .bool join, .bool raw] 26)
 generalize w.alloc (.cells #[.int .i64 tab, .bool wideA, .int .i8 want, .bool join, .bool raw] 26) = W1 at hb1 h1 ⊢
 obtain ⟨B, hB⟩ : ∃ B, w.heap.size = B := ⟨_, rfl⟩
 rw [hB] at h1 ⊢
 have q4 : W1.cell? ⟨B, 4, none⟩ = some (.bool raw) := by simp [World.cell?, h1]
 have f4 : W1.frozen? ⟨B, 4, none⟩ = false := by simp [World.frozen?, h1]
 have q3 : (W1.setCell ⟨B, 4, none⟩ (.bool true)).cell? ⟨B, 3, none⟩ = some (.bool join) := by
  have := set_at (i := 4) h1 (.bool true)
  simp [World.cell?, this]
 have f3 : (W1.setCell ⟨B, 4, none⟩ (.bool true)).frozen? ⟨B, 3, none⟩ = false := by
  have := set_at (i := 4) h1 (.bool true)
  simp [World.frozen?, this]
 have h2 : ((W1.setCell ⟨B, 4, none⟩ (.bool true)).setCell ⟨B, 3, none⟩ (.bool false)).heap[B]? = some (.cells #[.int .i64 tab, .bool wideA, .int .i8 want, .bool false, .bool true] 26 (0, 0)) := set_at (i := 3) (set_at (i := 4) h1 (.bool true)) (.bool false)
 have hb2 : Below w.heap.size w ((W1.setCell ⟨B, 4, none⟩ (.bool true)).setCell ⟨B, 3, none⟩ (.bool false)) := (hb1.setCell (p := ⟨B, 4, none⟩) (show w.heap.size ≤ B by omega) _).setCell (p := ⟨B, 3, none⟩) (show w.heap.size ≤ B by omega) _
 have HB2 := Lib.hid hb2
 have H2 := Lib.hid h2
 clear h1 hb1 h2 hb2
 gi_upto_region 3 with (fail)
 clear q4 f4 q3 f3
 generalize (W1.setCell ⟨B, 4, none⟩ (.bool true)).setCell ⟨B, 3, none⟩ (.bool false) = W2 at HB2 H2 ⊢
 have HK : Hid (∀ W, Below W2.heap.size W2 W → W.cell? ⟨B, 0, none⟩ = some (.int .i64 tab) ∧ W.cell? ⟨B, 1, none⟩ = some (.bool wideA) ∧ W.cell? ⟨B, 2, none⟩ = some (.int .i8 want) ∧ W.cell? ⟨B, 3, none⟩ = some (.bool false) ∧ W.cell? ⟨B, 4, none⟩ = some (.bool true)) := Lib.hid fun W hb => by
  have e0 := (hb.block B (Array.getElem?_eq_some_iff.1 H2.out).1).trans H2.out
  refine ⟨?_, ?_, ?_, ?_, ?_⟩ <;> simp [World.cell?, e0]
 gi_wp2_with (fail)
 refine ⟨trivial, ?_⟩
 refine (callsIn_wide.2 (HWL.out _)).mono ?_
 rintro e' W3 ⟨rfl, hb3⟩
 gi_upto_region 4 with (fail)
 have hz3 := hb3.size
 have h4 := World.alloc_heap_new W3 (.cells #[.int .i64 0, .int .i64 s.size, .int .u8 0, .int .i64 1073741824, .int .i8 0] 24)
 have hb4 : Below W2.heap.size W2 (W3.alloc (.cells #[.int .i64 0, .int .i64 s.size, .int .u8 0, .int .i64 1073741824, .int .i8 0] 24)) := hb3.alloc hz3 _
 generalize W3.alloc (.cells #[.int .i64 0, .int .i64 s.size, .int .u8 0, .int .i64 1073741824, .int .i8 0] 24) = W4 at h4 hb4 ⊢
 obtain ⟨R, hR⟩ : ∃ R, W3.heap.size = R := ⟨_, rfl⟩
 rw [hR] at h4 ⊢
 have r0 : W4.cell? ⟨R, 0, none⟩ = some (.int .i64 0) := by simp [World.cell?, h4]
 have r1 : W4.cell? ⟨R, 1, none⟩ = some (.int .i64 s.size) := by simp [World.cell?, h4]
 have r2 : W4.cell? ⟨R, 2, none⟩ = some (.int .u8 0) := by simp [World.cell?, h4]
 have r3 : W4.cell? ⟨R, 3, none⟩ = some (.int .i64 1073741824) := by simp [World.cell?, h4]
 have r4 : W4.cell? ⟨R, 4, none⟩ = some (.int .i8 0) := by simp [World.cell?, h4]
 obtain ⟨l0, l1, l2, l3, l4⟩ := HK.out W4 hb4
 have HB4 := Lib.hid hb4
 have HC4 := Lib.hid (HC.out W4 (HB2.out.trans (hb4.mono HB2.out.size)))
 clear h4 hb4 hb3 hz3 HC HWL hR
 gi_wp2_with (fail)
 refine ⟨trivial, ?_⟩
 refine (callsIn_wide.2 HC4.out).mono ?_
 rintro e' W5 ⟨a, c, rfl, hO5, hb5⟩
 have hb5' : Below W2.heap.size W2 W5 := HB4.out.trans (hb5.mono HB4.out.size)
 have HB5 := Lib.hid hb5'
 have HO5 := Lib.hid hO5
 clear r0 r1 r2 r3 r4 l0 l1 l2 l3 l4 hb5 hb5' hO5 HC4
 gi_wp2_with (fail)
 refine ⟨trivial, ?_⟩
 refine (callsIn_wide.2 (All_any s _)).mono ?_
 rintro e' W6 ⟨rfl, hW6⟩
 obtain ⟨A, hA⟩ : ∃ A, W5.heap.size = A := ⟨_, rfl⟩
 have hb6 : Below W2.heap.size W2 W6 := by rw [hW6]; exact HB5.out.alloc HB5.out.size _
 have hx6 : Boxed W6 A 9 (.string s) := by rw [hW6, ← hA]; exact World.alloc_heap_new W5 _
 have hO6 : OwnS ceE 32 W6 W4.heap.size (.slice a cs.length c) cs := by rw [hn]; rw [hW6]; exact HO5.out.keep ((Below.refl _ _).alloc (Nat.le_refl _) _)
 have hA2 : W2.heap.size ≤ A := by rw [← hA]; exact HB5.out.size
 rw [hA]
 clear hW6 HO5 HB5 hA
 unfold itV
 have HA6 := Lib.hid (HAL.out W6 (HB2.out.trans (hb6.mono HB2.out.size)))
 have HB6 := Lib.hid hb6
 have HX6 := Lib.hid hx6
 have HO6 := Lib.hid hO6
 have hnf := eq_fn (.func 54) #[] #[.pointer (some ⟨A, 0, none⟩)]
 clear hb6 hx6 hO6 HAL
 gi_wp2_with (fail)
 refine ⟨trivial, ?_⟩
 refine (callsIn_wide.2 HA6.out).mono ?_
 rintro e' W7 ⟨rfl, hb7⟩
 have hb7' : Below W2.heap.size W2 W7 := HB6.out.trans (hb7.mono HB6.out.size)
 have hx7 : Boxed W7 A 9 (.string s) := (hb7.block A (Array.getElem?_eq_some_iff.1 HX6.out).1).trans HX6.out
 have hO7 := HO6.out.keep hb7
 have HB7 := Lib.hid hb7'
 have HX7 := Lib.hid hx7
 have HO7 := Lib.hid hO7
 clear hb7 hb7' hx7 hO7 HB6 HX6 HO6 HA6
 gi_upto_region 11 with (fail)
 obtain ⟨C, hC⟩ : ∃ C, W7.heap.size = C := ⟨_, rfl⟩
 obtain ⟨m1, m2, m3⟩ := two_alloc W7 (.cells #[.int .i64 0] 3 (0, 0)) (.cells #[.slice none 0 0] 42 (0, 0))
 have hz8 : ((W7.alloc (.cells #[.int .i64 0] 3)).alloc (.cells #[.slice none 0 0] 42)).heap.size = W7.heap.size + 2 := by rw [World.size_alloc, World.size_alloc]
 generalize (W7.alloc (.cells #[.int .i64 0] 3)).alloc (.cells #[.slice none 0 0] 42) = W8 at m1 m2 m3 hz8 ⊢
 rw [hC] at m1 m2 m3 hz8 ⊢
 have hAC : A < C := by rw [← hC]; exact (Array.getElem?_eq_some_iff.1 HX7.out).1
 have hBC : W2.heap.size ≤ C := by omega
 have hb78 : Below C W7 W8 := m3
 have hT8 := (HT.out W8 (HB2.out.trans ((HB7.out.trans (m3.mono hBC)).mono HB2.out.size))).1
 have hTT := (HT.out W7 (HB2.out.trans (HB7.out.mono HB2.out.size))).1
 have h3 : Tryz.lays197_ren.g 3 < C := by rw [← hC]; exact cell_lt (hTT.1 0 (by omega))
 have h4 : Tryz.lays197_ren.g 4 < C := by rw [← hC]; exact (cell_lt (hTT.2 0 (by omega)).1)
 have hx8 : Boxed W8 A 9 (.string s) := (m3.block A (by omega)).trans HX7.out
 have q1 : Boxed W8 C 3 (.int .i64 0) := m1
 have q2 : Boxed W8 (C + 1) 42 (.slice none 0 0) := m2
 clear hTT m1 m2 m3
 gi_wp2_with (fail)
 refine wpIn_rangeFunc_ownF (F := Fence.wide) rfl (by omega) (gf := 54) (lb := #[.pointer (some ⟨A, 0, none⟩)]) rfl trivial (enters_of Tryz.func54 (by kernel_rfl) rfl)
  (pieces_stops 3 (by omega) A C s (by omega) h3 h4 W8 (by omega) hx8.cell hT8) (fun h k => KpB.trans h k) (kpB_put (w := W8) (by omega)) (Below.refl _ _) (fun _ => rfl)
  (fun pre W => RhJ C W7 tab wideA (pre.map (·.1)) W) (fun _ _ _ => False) ?hI (fun _ _ _ _ _ hs _ _ => hs) ?h0
  (fun x => { tmps := #[.string s, lookV tab want wideA join raw, undef, .pointer (some ⟨B, 0, none⟩), .bool false, .pointer (some ⟨R, 0, none⟩), .slice a n c, .func (.func 54) #[] #[.pointer (some ⟨A, 0, none⟩)], .pointer (some ⟨C, 0, none⟩), .pointer (some ⟨C + 1, 0, none⟩), undef, .string x.1.2, undef, undef, undef, undef, .pointer (some ⟨B, 4, none⟩), .pointer (some ⟨B, 3, none⟩), .string s, .agg #[.int .i64 0, .int .i64 s.size, .int .u8 0, .int .i64 1073741824, .int .i8 0], .string s, .agg #[.int .i64 0, .int .i64 s.size, .int .u8 0, .int .i64 1073741824, .int .i8 0], .agg #[.int .i64 tab, .bool wideA, .int .i8 want, .bool false, .bool true], .slice a n c, .string s, .func (.func 54) #[] #[.pointer (some ⟨A, 0, none⟩)], .func (.func 54) #[] #[.pointer (some ⟨A, 0, none⟩)], .bool false, .bool false, .bool true, .bool false, .bool false, .func (.func 54) #[] #[.pointer (some ⟨A, 0, none⟩)], .int .i64 x.1.1, .string x.1.2, undef, undef, undef, undef, undef, undef, undef, undef, undef, undef, undef, undef, undef, undef, undef, undef, undef, undef, undef, undef, undef, undef, undef, undef, undef, undef, undef, undef, undef, undef, undef, undef, undef, undef, undef, undef, undef, undef, undef, undef, undef, undef, undef, undef, undef, undef, undef, undef, undef, undef, undef, undef, undef, undef, undef, undef, undef, undef, undef, undef, undef, undef], defers := [] }) ?assign ?body ?done ?stop
 case hI =>
  rintro pre X Y row ⟨r1, ⟨v, r2, r3⟩, r4⟩ hg hrow
  have hr := fun k e => (hrow k e).2
  refine ⟨box_kept r1 hg hr, ⟨v, box_kept r2 hg hr, rowF_kept r3 hg (fun g hv e => ?_)⟩, r4.grown hg (by have := r4.size; omega) (fun k e => by have := (hrow k e).1; omega)⟩
  obtain ⟨o, ho, hc⟩ := hr g e
  rcases r3.2 with ⟨rfl, _⟩ | ⟨g', cap, cur, fz, rfl, _, hgb, _⟩
  ·cases hv
  ·cases hv
   rw [hgb] at ho
   cases ho; cases hc
 case h0 => exact ⟨q1, ⟨_, q2, rfl, .inl ⟨rfl, rfl⟩⟩, hb78⟩
 case assign =>
  intro l x W K hK
  gi_wp2_with (fail)
  exact hK
 case body =>
  rintro l pre x W ⟨r1, ⟨v, r2, r3⟩, r4⟩ hlt
  have hx := x.2
  obtain ⟨k, hcx⟩ : ∃ k, x.1.2 = k := ⟨_, rfl⟩
  rw [hcx] at hx
  have hkz : k.size ≤ 2097152 := by omega
  have hpl := pieces_len s
  have hsb := said_bd tab wideA true (pre.map (·.1)) 0
  rw [List.length_map] at hsb
  have hss := said_size tab wideA true 2097152 (pre.map (·.1)) 0 (fun p hp => by
   obtain ⟨q, hq, rfl⟩ := List.mem_map.1 hp
   have := q.2
   omega)
  rw [List.length_map] at hss
  have hsn := saidF_snoc tab wideA true (pre.map (·.1)) x.1 0
  rw [hcx] at hsn
  simp only [hcx]
  have hJ : ∀ W', Boxed W' C 3 (.int .i64 ((saidF tab wideA true (pre.map (·.1)) 0).2 + (textI k (saidF tab wideA true (pre.map (·.1)) 0).2 tab wideA true).2)) → (∃ v, Boxed W' (C + 1) 42 v ∧ W'.ownsRowF C 5 1 v ((saidF tab wideA true (pre.map (·.1)) 0).1 ++ (if 0 < (textI k (saidF tab wideA true (pre.map (·.1)) 0).2 tab wideA true).2 then (textI k (saidF tab wideA true (pre.map (·.1)) 0).2 tab wideA true).1 else ⟨#[]⟩)).size (Lib.strCells ((saidF tab wideA true (pre.map (·.1)) 0).1 ++ (if 0 < (textI k (saidF tab wideA true (pre.map (·.1)) 0).2 tab wideA true).2 then (textI k (saidF tab wideA true (pre.map (·.1)) 0).2 tab wideA true).1 else ⟨#[]⟩)))) → Below C W7 W' → RhJ C W7 tab wideA ((pre ++ [x]).map (·.1)) W' := fun W' g1 g2 g3 => by
   unfold RhJ
   rw [List.map_append, List.map_singleton, hsn]
   exact ⟨g1, g2, g3⟩
  obtain ⟨T0, hT0⟩ : ∃ T0, (saidF tab wideA true (pre.map (·.1)) 0).1 = T0 := ⟨_, rfl⟩
  obtain ⟨cl, hcl⟩ : ∃ cl, (saidF tab wideA true (pre.map (·.1)) 0).2 = cl := ⟨_, rfl⟩
  rw [hT0] at r3 hss hJ
  rw [hcl] at r1 hsb hJ
  have htb := textI_bd k cl tab wideA true
  have htz := textI_size k cl tab wideA true
  have hWW := HB2.out.trans ((HB7.out.trans (r4.mono hBC)).mono HB2.out.size)
  have hTX := text_any k hkz cl tab want wideA false true W (HT.out W hWW).1 (HT.out W hWW).2
  obtain ⟨tx, htx⟩ : ∃ tx, (textI k cl tab wideA true).1 = tx := ⟨_, rfl⟩
  obtain ⟨nn, hnn⟩ : ∃ nn, (textI k cl tab wideA true).2 = nn := ⟨_, rfl⟩
  rw [htx] at htz hTX hJ
  rw [hnn] at htb hTX hJ
  have hlen : pre.length ≤ 2097152 := by omega
  have hwz : wrap64 (cl + nn) = cl + nn := sum_wH cl nn (by omega) (by omega) htb.1 htb.2
  have hts : T0.size + tx.size ≤ 140737488355328 := by
   have : (2097152 + 130) * pre.length ≤ (2097152 + 130) * 2097152 := Nat.mul_le_mul_left _ hlen
   omega
  have HTX := Lib.hid hTX
  have HJ := Lib.hid hJ
  obtain ⟨l0, l1, l2, l3, l4⟩ := HK.out W (HB7.out.trans (r4.mono hBC))
  have c1 := r1.cell
  have hCW : C < W.heap.size := (Array.getElem?_eq_some_iff.1 r1).1
  have hCW1 : C + 1 < W.heap.size := (Array.getElem?_eq_some_iff.1 r2).1
  clear hTX hJ hsn hss hpl hx hcx hlt hsb hWW htz hnn htx hT0 hcl q1 q2 hx8 hT8 hb78 hz8
  gi_wp2_with (fail)
  refine ⟨trivial, ?_⟩
  refine (callsIn_wide.2 HTX.out).mono ?_
  rintro e' W1 ⟨rfl, hb1⟩
  have s1 : Boxed W1 C 3 (.int .i64 cl) := (hb1.block C hCW).trans r1
  have s2 : Boxed W1 (C + 1) 42 v := (hb1.block (C + 1) hCW1).trans r2
  have s3 := rowF_below r3 hb1
  have hkp1 : KeepsOthers W W1 := keeps_below hb1
  have s4 : Below C W W1 := hb1.mono (by omega)
  have s5 : Below C W7 W1 := r4.trans s4
  have hCW2 : C ≤ W1.heap.size := by have := hb1.size; omega
  have S1 := Lib.hid s1
  have S2 := Lib.hid s2
  have S3 := Lib.hid s3
  have S4 := Lib.hid s4
  have S5 := Lib.hid s5
  have KP := Lib.hid hkp1
  have c1 := s1.cell
  have c2 := s2.cell
  have f1 := s1.frozen
  have f2 := s2.frozen
  clear l0 l1 l2 l3 l4 r1 r2 r3 r4 s1 s2 s3 s4 s5 hb1 hkp1 HTX
  by_cases hn0 : 0 < nn
  ·have hnd : decide (0 < nn) = true := decide_eq_true hn0
   have HJ2 := HJ.out
   rw [if_pos hn0] at HJ2
   have HJ3 := Lib.hid HJ2
   clear HJ2 HJ
   gi_wp2_with (gi_at_builtin; refine Lib.wpListIn_append_own_stringF _ rfl _ _ 42 9 rfl C 5 i5 Tryz.underlying42 Tryz.underlying9 hi5 hz5 ha5 hby5 _ _ _ rfl S3.out tx rfl (by unfold maxLen; omega) hts hCW2 ?_; intro v' w2 ho2 hg2 _; obtain ⟨va, vc, hvs⟩ := rowF_slice ho2; subst hvs; have hne := ne_rowF S3.out S1.out (by decide); have hne2 := ne_rowF S3.out S2.out (by decide); have u1 : Boxed w2 C 3 (.int .i64 cl) := Boxed.kept S1.out hg2 (fun e => hne C e.symm rfl); have u2 : Boxed w2 (C + 1) 42 v := Boxed.kept S2.out hg2 (fun e => hne2 (C + 1) e.symm rfl); have d2 := u2.cell; have g2 := u2.frozen; have d1 := (box_other (B := C + 1) (i := 0) (v := .slice va (T0.size + tx.size) vc) u1 (by omega)); have d1c := Boxed.cell d1; have d1f := Boxed.frozen d1)
   have hk2 : KeepsOthers W1 w2 := KeepsOthers.of_grownBy hg2 (fun j o hj ho => by
    rcases S3.out.2 with ⟨rfl, _⟩ | ⟨g, cap, cur, fz, rfl, _, hgb, _⟩
    ·cases hj
    ·cases hj
     rw [hgb] at ho
     cases ho; rfl)
   have hb2 : Below C W1 w2 := (Below.refl _ _).grown hg2 hCW2 (fun j hj => (lt_rowF S3.out j hj).2)
   have hb3 : Below C W1 ((w2.setCell ⟨C + 1, 0, none⟩ (.slice va (T0.size + tx.size) vc)).setCell ⟨C, 0, none⟩ (.int .i64 (cl + nn))) := (hb2.setCell (p := ⟨C + 1, 0, none⟩) (Nat.le_succ _) _).setCell (p := ⟨C, 0, none⟩) (Nat.le_refl _) _
   have ho3 : ((w2.setCell ⟨C + 1, 0, none⟩ (.slice va (T0.size + tx.size) vc)).setCell ⟨C, 0, none⟩ (.int .i64 (cl + nn))).ownsRowF C 5 1 (.slice va (T0.size + tx.size) vc) (T0.size + tx.size) (Lib.strCells T0 ++ Lib.strCells tx) := by
    have a1 := ne_rowF ho2 u1 (by decide)
    have a2 := ne_rowF ho2 u2 (by decide)
    have e1 : (w2.setCell ⟨C + 1, 0, none⟩ (.slice va (T0.size + tx.size) vc)).ownsRowF C 5 1 (.slice va (T0.size + tx.size) vc) (T0.size + tx.size) (Lib.strCells T0 ++ Lib.strCells tx) := rowF_kept ho2 (row := some (C + 1)) (grownBy_setCell' w2 (C + 1) (.slice va (T0.size + tx.size) vc)) (fun g hv e => by cases e; exact a2 _ hv rfl)
    exact rowF_kept e1 (row := some C) (grownBy_setCell' _ C (.int .i64 (cl + nn))) (fun g hv e => by cases e; exact a1 _ hv rfl)
   refine ⟨(KP.out.trans hk2).trans ((KeepsOthers.setCell _ _ _).trans (KeepsOthers.setCell _ _ _)), ⟨S4.out.trans hb3, fun v hv => ?_⟩, HJ3.out _ (set_at (i := 0) d1 _) ⟨(.slice va (T0.size + tx.size) vc), box_other (set_at (i := 0) u2 (.slice va (T0.size + tx.size) vc)) (by omega), ?_⟩ (S5.out.trans hb3)⟩
   ·have hAW : A < W.heap.size := by omega
    exact cell_bl (S4.out.trans hb3) hAC hv
   ·rw [ByteArray.size_append, cells_app]
    exact ho3
  ·have hnd : decide (0 < nn) = false := decide_eq_false hn0
   have HJ2 := HJ.out
   rw [if_neg hn0, app_nil] at HJ2
   have HJ3 := Lib.hid HJ2
   clear HJ2 HJ
   gi_wp2_with (fail)
   have hb3 : Below C W1 (W1.setCell ⟨C, 0, none⟩ (.int .i64 (cl + nn))) := (Below.refl _ _).setCell (p := ⟨C, 0, none⟩) (Nat.le_refl _) _
   have ho3 : (W1.setCell ⟨C, 0, none⟩ (.int .i64 (cl + nn))).ownsRowF C 5 1 v T0.size (Lib.strCells T0) := rowF_kept S3.out (row := some C) (grownBy_setCell' _ C (.int .i64 (cl + nn))) (fun g hv e => by cases e; exact ne_rowF S3.out S1.out (by decide) _ hv rfl)
   refine ⟨KP.out.trans (KeepsOthers.setCell _ _ _), ⟨S4.out.trans hb3, fun v hv => ?_⟩, HJ3.out _ (set_at (i := 0) S1.out _) ⟨v, box_other S2.out (by omega), ho3⟩ (S5.out.trans hb3)⟩
   exact cell_bl (S4.out.trans hb3) hAC hv
 case done =>
  rintro D xs W hD hxs ⟨r1, ⟨v, r2, r3⟩, r4⟩ hK
  have hDw : w.heap.size ≤ D := by have := HB2.out.size; omega
  have hxs' : xs.map (·.1) = piecesI s := hxs
  have hss := said_size tab wideA true 2097152 (xs.map (·.1)) 0 (fun p hp => by
   obtain ⟨q, hq, rfl⟩ := List.mem_map.1 hp
   have := q.2
   omega)
  have hpl := pieces_len s
  have hsb := said_bd tab wideA true (piecesI s) 0
  rw [hxs'] at r1 r3 hss
  rw [← HP1.out] at r3 hss
  rw [← HP2.out] at r1 hsb
  have hjz : (joinT cs).size ≤ 70368744177664 := by
   have : (2097152 + 130) * (piecesI s).length ≤ (2097152 + 130) * 2097152 := Nat.mul_le_mul_left _ (by omega)
   omega
  have hnz : n ≤ 39845888 := by omega
  rw [hn] at r1
  have HCV := Lib.hid (conv_own r3)
  have HR1 := Lib.hid r1
  have HR2 := Lib.hid r2
  have HR3 := Lib.hid r3
  have HK7 := Lib.hid hK
  have hO9 := HO7.out.keep (hC ▸ r4)
  rw [hn] at hO9
  have HO9 := Lib.hid hO9
  have HR4 := Lib.hid r4
  have hDW : D < W.heap.size := (Array.getElem?_eq_some_iff.1 hK).1
  clear hxs hxs' hss hpl hsb r1 r2 r3 r4 hK hO9 q1 q2 hx8 hT8 hb78 hz8 HX7 HO7
  gi_wp2_with (fail)
  gi_loopw [14, 15] (fun u14 u15 wx => ∃ k : Nat, k ≤ n ∧ u15 = .int .i64 k ∧ wx.ownsRowF W.heap.size 5 1 u14 (joinT (cs.take k)).size (Lib.strCells (joinT (cs.take k))) ∧ Below W.heap.size W wx) (fun _ u15 _ => n - (intOf u15).toNat)
  case atStart => exact ⟨0, Nat.zero_le _, rfl, ⟨rfl, .inl ⟨rfl, rfl⟩⟩, Below.refl _ _⟩
  case round =>
   obtain ⟨k, hk, rfl, ho, hb⟩ := hrel
   by_cases hlt : k < n
   ·obtain ⟨x, hx⟩ : ∃ x, cs[k]? = some x := ⟨_, List.getElem?_eq_getElem (by omega)⟩
    have hjt := joinT_take cs k x hx
    have hjl := joinT_le cs (k + 1)
    rw [hjt, ByteArray.size_append] at hjl
    have htz : (joinT (cs.take k)).size + x.text.size ≤ 140737488355328 := by omega
    have HJT := Lib.hid hjt
    have hbs : W.heap.size ≤ wr.heap.size := hb.size
    obtain ⟨G, eG, x0, _, _, _, _, _⟩ := ce_all2 hn (HO9.out.keep hb) k x hx
    subst eG
    have hkn : (k : Int) < (n : Int) := by omega
    have hxr := HQ1.out x (List.mem_of_getElem? hx)
    obtain ⟨T1, hT1⟩ : ∃ T1, joinT (cs.take k) = T1 := ⟨_, rfl⟩
    rw [hT1] at ho htz HJT
    have HO := Lib.hid ho
    have HB := Lib.hid hb
    have HX := Lib.hid hx
    have HXR := Lib.hid hxr
    clear ho hb hx hxr hjt hjl hT1 hjz
    gi_upto_region 21 with (gi_at_builtin; refine Lib.wpListIn_append_own_stringF _ rfl _ _ 42 9 rfl W.heap.size 5 i5 Tryz.underlying42 Tryz.underlying9 hi5 hz5 ha5 hby5 _ _ _ rfl HO.out x.text rfl (by unfold maxLen; omega) htz hbs ?_; intro v' w2 ho2 hg2 _)
    have hb2 : Below W.heap.size W w2 := HB.out.trans ((Below.refl _ _).grown hg2 hbs (fun j hj => (lt_rowF HO.out j hj).2))
    obtain ⟨G', eG, z0, z1, z2, z3, z4, z5⟩ := ce_all2 hn (HO9.out.keep hb2) k x HX.out
    cases eG
    rw [HXR.out] at z4
    rw [← ByteArray.size_append, ← cells_app, ← HJT.out] at ho2
    have HO2 := Lib.hid ho2
    have HB2' := Lib.hid hb2
    have hwk : IntKind.i64.wrap ((k : Int) + 1) = (k : Int) + 1 := by rw [IntKind.wrap_i64]; omega
    clear ho2 hg2 x0 z0 z1 z3 z5
    cases k with
    | zero =>
      have hd1 : decide ((0 : Int) < ((0 : Nat) : Int)) = false := by decide
      clear hb2
      gi_quiet (fail)
      gi_wp2_with (fail)
      go_roundw
      case rel => exact ⟨1, by omega, by go_num, rowF_below HO2.out (bl_drewN (Below.refl _ _) _), bl_drewN HB2'.out _⟩
      case measure => simp [intOf]; omega
    | succ k =>
      obtain ⟨y, hy⟩ : ∃ y, cs[k]? = some y := ⟨_, List.getElem?_eq_getElem (by omega)⟩
      obtain ⟨G', eG, _, _, y2, _, _, _⟩ := ce_all2 hn (HO9.out.keep hb2) k y hy
      cases eG
      have hle := HPW.out k y x hy HX.out
      have hd1 : decide ((0 : Int) < ((k + 1 : Nat) : Int)) = true := decide_eq_true (by omega)
      have hd1' : decide ((0 : Int) < (k : Int) + 1) = true := decide_eq_true (by omega)
      have hd2 : decide ((x.a : Int) < (y.a : Int)) = false := decide_eq_false (by omega)
      have hd2' : decide (x.a < y.a) = false := decide_eq_false (by omega)
      have hwj : IntKind.i64.wrap (((k + 1 : Nat) : Int) - 1) = (k : Int) := by rw [IntKind.wrap_i64]; omega
      have hwj' : IntKind.i64.wrap ((k : Int) + 1 - 1) = (k : Int) := by rw [IntKind.wrap_i64]; omega
      have hwj2 : IntKind.i64.wrap (k : Int) = (k : Int) := by rw [IntKind.wrap_i64]; omega
      have hg1 : (k : Int) + 1 < (n : Int) := by omega
      have hg2 : (k : Int) < (n : Int) := by omega
      have hg3 : (0 : Int) ≤ (k : Int) + 1 := by omega
      have hg4 : (0 : Int) ≤ (k : Int) := by omega
      have hwk2 : IntKind.i64.wrap ((k : Int) + 1 + 1) = (k : Int) + 1 + 1 := by rw [IntKind.wrap_i64]; omega
      clear hb2 hy hle
      gi_quiet (fail)
      gi_wp2_with (fail)
      go_roundw
      case rel => exact ⟨k + 2, by omega, by go_num, rowF_below HO2.out (bl_drewN (Below.refl _ _) _), bl_drewN HB2'.out _⟩
      case measure => simp [intOf]; omega
   ·obtain rfl : k = n := by omega
    rw [List.take_of_length_le (by omega)] at ho
    have hcv1 := conv_own ho
    have hcv2 := conv_own (rowF_below HR3.out hb)
    have b1 : Boxed wr C 3 (.int .i64 k) := (hb.block C (Array.getElem?_eq_some_iff.1 HR1.out).1).trans HR1.out
    have b2 : Boxed wr (C + 1) 42 v := (hb.block (C + 1) (Array.getElem?_eq_some_iff.1 HR2.out).1).trans HR2.out
    have c1 := b1.cell
    have c2 := b2.cell
    have hKr : wr.heap[D]? = some (.deferred (some [])) := (hb.block D hDW).trans HK7.out
    have HKR := Lib.hid hKr
    have HB9 := Lib.hid ((HB2.out.trans ((HB7.out.trans (HR4.out.mono hBC)).mono HB2.out.size)).trans (hb.mono (by have := HR4.out.size; have := HB7.out.size; have := HB2.out.size; omega)))
    clear ho hb b1 b2 hKr HCV
    gi_wp2_with (fail)
    have hKr := HKR.out
    refine ⟨by simp, .inl ⟨_, _, rfl, run_takeDeferred hKr, ?_⟩⟩
    exact ⟨_, results_tmp rfl _ _ _, rfl, HB9.out.trans (belowK_b (w := w) (Nat.le_refl _) wr D _ _ hDw hKr rfl rfl)⟩
 case stop =>
  rintro D c' pre W hD hSp hf hK
  exact hf.elim
end
end Go.Proofs.YtlbclfmbejjneaaGreatDoor
