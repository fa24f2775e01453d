/- The law WrapAt of layer 14: at any rows (at most 1048576) and any caret it answers true, and nothing that was there changes. -/
import Derived.Test.YtphlhnkenehnnaaGreatDoorWorks
import Derived.Test.YtphlhnkenehnnaaGreatDoorRefAt
import Derived.Laws.MakeOwn
namespace Go.Proofs.YtphlhnkenehnnaaGreatDoor
set_option linter.unusedVariables false
set_option linter.unusedSimpArgs false
open Go.RowKit Go.Proofs Go.Shelf
attribute [local go_sem] Oper.semAt_some

theorem flat5_cell (l : List RowV) (j : Nat) (u : Value) (h : (l.flatMap rcell)[j]? = some u) : ∃ r, l[j / 5]? = some r ∧ (rcell r)[j % 5]? = some u := by
  have hj := (List.getElem?_eq_some_iff.1 h).1
  rw [flat5_len] at hj
  have hi : j / 5 < l.length := by omega
  have hr : l[j / 5]? = some l[j / 5] := List.getElem?_eq_getElem hi
  have hk : j % 5 < (rcell l[j / 5]).length := by show j % 5 < 5; omega
  have hv := List.getElem?_eq_getElem hk
  have := flat5_get l (j / 5) _ hr (j % 5) _ hv
  rw [show j / 5 * 5 + j % 5 = j by omega, h] at this
  exact ⟨_, hr, by rw [hv]; exact this.symm⟩
theorem RdR.src {w : World} {a : Option Addr} {l : List RowV} {n : Nat} (h : RdR w a l) (hn : l.length = n) : n = 0 ∨ ∃ ad, a = some ad ∧ ∀ j u, (l.flatMap rcell)[j]? = some u → w.cell? (ad.add j) = some u := by
  rcases h with h | ⟨b, off, h1, h2, h3⟩
  · subst h; exact .inl hn.symm
  · refine .inr ⟨_, h1, fun j u hj => ?_⟩
    obtain ⟨r, hr, hk⟩ := flat5_cell l j u hj
    have := h3 (j / 5) r hr (j % 5) u hk
    rw [Addr.add_lit]
    rw [show off + j = off + j / 5 * 5 + j % 5 by omega]
    exact this
theorem rcell_one (l : List RowV) : ∀ u ∈ l.flatMap rcell, u.oneCell' = true := fun u hu => by
  obtain ⟨r, _, h⟩ := List.mem_flatMap.1 hu
  simp only [rcell, List.mem_cons, List.not_mem_nil, or_false] at h
  rcases h with rfl | rfl | rfl | rfl | rfl <;> rfl
def wSeven : List Value := [.int .i64 (-7), .int .i64 0, .int .u8 0, .int .i64 0, .int .i8 0]
theorem own_seven {w : World} {base n : Nat} {v : Value} {l : List RowV} (hn : l.length = n) (h : w.ownsRow base 30 5 v (n + 1) (l.flatMap rcell ++ wSeven)) :
    ∃ G cap, v = .slice (some ⟨G, 0, none⟩) (n + 1) cap ∧ G < w.heap.size ∧ base ≤ G ∧ RdR w (some ⟨G, 0, none⟩) l ∧ w.cell? ⟨G, n * 5, none⟩ = some (.int .i64 (-7)) ∧ n + 1 ≤ cap ∧ cap ≤ maxLen := by
  obtain ⟨a, cap, rfl, hc, hm⟩ := own_slice h
  obtain ⟨G, rfl, h1, h2, h3⟩ := own_cells h (Nat.succ_pos _)
  have hl : (l.flatMap rcell).length = n * 5 := by rw [flat5_len, hn]
  refine ⟨G, cap, rfl, h2, h1, .inr ⟨G, 0, rfl, h2, fun i r hi k v hv => ?_⟩, ?_, hc, hm⟩
  · have hk : k < 5 := (List.getElem?_eq_some_iff.1 hv).1
    have hil := (List.getElem?_eq_some_iff.1 hi).1
    rw [Nat.zero_add, h3 (i * 5 + k) (by omega), List.getElem?_append_left (by omega)]
    exact flat5_get l i r hi k v hv
  · rw [h3 (n * 5) (by omega), List.getElem?_append_right (by omega), hl, Nat.sub_self]
    rfl
set_option maxHeartbeats 1000000 in
theorem LawWA_any (pa : Option Addr) (ca n : Nat) (l : List RowV) (hn : l.length = n) (hz : n ≤ 1048576) (c cx : Int) (back : Bool) (w : World) (hT : T8 w) (hD : DB w) (ha : RdR w pa l) (hnc : n ≤ ca) :
    Calls Tryz.prog 4 #[.slice pa n ca, .agg #[.int .i64 c, .bool back, .int .i64 cx]] w fun e w' => e = .returned (.bool true) ∧ Below w.heap.size w w' := by
  obtain ⟨i5, hi5, hz5, ha5, hb5⟩ := info_parts (Tryz.info_row)
  have HT : Hid (∀ W, Below w.heap.size w W → T8 W) := Lib.hid fun W hb => hT.below rfl hb
  have HD : Hid (∀ W, Below w.heap.size w W → DB W) := Lib.hid fun W hb => hD.below hb
  have HA := Lib.hid (fun (W : World) (hb : Below w.heap.size w W) => ha.below hb)
  have HN := Lib.hid hn
  clear hT hD ha hn
  go_enter Tryz.func4, Tryz.ntmps4
  go_upto_region 1 with (fail)
  have hb0 : Below w.heap.size w (w.alloc (.cells #[.int .i64 c, .bool back, .int .i64 cx] 34)) := (Below.refl _ _).alloc (Nat.le_refl _) _
  have hx0 := World.alloc_heap_new w (.cells #[.int .i64 c, .bool back, .int .i64 cx] 34)
  generalize w.alloc (.cells #[.int .i64 c, .bool back, .int .i64 cx] 34) = W0 at hb0 hx0 ⊢
  have hs0 : w.heap.size < W0.heap.size := (Array.getElem?_eq_some_iff.1 hx0).1
  obtain ⟨W1, hmk, hown1, hg1⟩ := run_make_own (P := Tryz.prog) W0 W0.heap.size 25 30 i5 (.agg #[.int .i64 0, .int .i64 0, .int .u8 0, .int .i64 0, .int .i8 0]) 5 Tryz.underlying25 hi5 hz5 ha5 .i64 .i64 (n + 1) (by rw [hb5]; omega) (by unfold maxLen; omega) (Nat.le_refl _)
  rw [show ((n + 1 : Nat) : Int) = (n : Int) + 1 by omega] at hmk
  have hb1 : Below W0.heap.size W0 W1 := (Below.refl W0.heap.size W0).grown hg1 (Nat.le_refl _) (fun k hk => by cases hk)
  have HB0 := Lib.hid hb0
  have HX0 := Lib.hid hx0
  have HOWN1 := Lib.hid hown1
  have HB1 := Lib.hid hb1
  clear hb0 hx0 hown1 hg1 hb1
  go_upto_region 2 with (fail)
  have hs1 := HB1.out.size
  have hb1' : Below w.heap.size w W1 := HB0.out.trans (HB1.out.mono (by omega))
  have hsrc := (HA.out W1 hb1').src HN.out
  have HSRC := Lib.hid hsrc
  have HB1' := Lib.hid hb1'
  clear hsrc hb1' hmk
  go_upto_region 3 with (at_builtin; refine wpList_append_src _ rfl (.tmp 11) (.tmp 12) 25 rfl W0.heap.size 30 i5 (.agg #[.int .i64 0, .int .i64 0, .int .u8 0, .int .i64 0, .int .i8 0]) 5 40 Tryz.underlying25 hi5 hz5 ha5 hb5 rfl (by decide) _ 0 _ rfl HOWN1.out pa n ca (l.flatMap rcell) rfl (by rw [flat5_len, HN.out]) HSRC.out (rcell_one l) (by unfold maxLen; omega) (by omega) hs1 ?_; intro v2 W2 hown2 hg2)
  rw [Nat.zero_add, List.nil_append] at hown2
  have hb2 : Below W0.heap.size W1 W2 := (Below.refl W0.heap.size W1).grown hg2 hs1 (fun k hk => (HOWN1.out.lt k hk).1)
  have hs2 : W0.heap.size ≤ W2.heap.size := Nat.le_trans hs1 hg2.size
  have HB2 := Lib.hid (HB1.out.trans hb2)
  have HOWN2 := Lib.hid hown2
  clear hown2 hg2 hb2 HSRC HOWN1 HB1 HB1'
  go_upto_region 4 with (at_builtin; refine wpList_append_own_at _ rfl _ _ 25 rfl W0.heap.size 30 i5 (.agg #[.int .i64 0, .int .i64 0, .int .u8 0, .int .i64 0, .int .i8 0]) 5 40 Tryz.underlying25 hi5 hz5 ha5 hb5 rfl (by decide) _ n _ rfl (HOWN2.out.alloc _) ⟨W2.heap.size, 0, none⟩ 1 1 [.int .i64 (-7), .int .i64 0, .int .u8 0, .int .i64 0, .int .i8 0] rfl rfl (list_new _ _ _) (by simp [Value.oneCell']) (by unfold maxLen; omega) (by omega) (by simp; omega) ?_; intro v3 W3 hown3 hg3 _ _)
  have hbA := HB2.out.alloc hs2 (.cells #[.int .i64 (-7), .int .i64 0, .int .u8 0, .int .i64 0, .int .i8 0] 30)
  have hb3 : Below W0.heap.size W0 W3 := hbA.grown hg3 (by simp; omega) (fun k hk => (HOWN2.out.lt k hk).1)
  have hs3 := hb3.size
  obtain ⟨G, cap, rfl, hG, hGb, hrd, hm7, hc1, hc2⟩ := own_seven HN.out hown3
  have hx3 := (hb3.block w.heap.size hs0).trans HX0.out
  have l0 : W3.cell? ⟨w.heap.size, 0, none⟩ = some (.int .i64 c) := by simp [World.cell?, hx3]
  have l1 : W3.cell? ⟨w.heap.size, 1, none⟩ = some (.bool back) := by simp [World.cell?, hx3]
  have l2 : W3.cell? ⟨w.heap.size, 2, none⟩ = some (.int .i64 cx) := by simp [World.cell?, hx3]
  have hb3' : Below w.heap.size w W3 := HB0.out.trans (hb3.mono (by omega))
  have HB3 := Lib.hid hb3'
  have HRD := Lib.hid hrd
  have HM7 := Lib.hid hm7
  have HX3 := Lib.hid hx3
  clear hbA hown3 hg3 hb3 hb3' hrd hm7 hx3 HB2 HOWN2 HX0 HB0
  have HAT : Hid (∀ W, Below W3.heap.size W3 W → Calls Tryz.prog 14 #[.slice (some ⟨G, 0, none⟩) n cap, .agg #[.int .i64 c, .bool back, .int .i64 cx]] W fun e w' => e = .returned (.int .i64 (atI (atsOf l) c back)) ∧ Below W3.heap.size W3 w') :=
    Lib.hid fun W hb => (At_any _ cap n l HN.out (by omega) c cx back W (HRD.out.below hb)).mono fun e w' ⟨h1, h2⟩ => ⟨h1, hb.trans (h2.mono hb.size)⟩
  unfold maxLen at hc2
  have g1 : (n : Int) ≤ (cap : Int) := by omega
  have g2 : (0 : Int) ≤ (n : Int) := by omega
  have hwl := (Array.getElem?_eq_some_iff.1 HX3.out).1
  have hwl3 : w.heap.size < W3.heap.size := hwl
  have HK : Hid (∀ W, Below W3.heap.size W3 W → W.cell? ⟨w.heap.size, 0, none⟩ = some (.int .i64 c) ∧ W.cell? ⟨w.heap.size, 1, none⟩ = some (.bool back) ∧ W.cell? ⟨w.heap.size, 2, none⟩ = some (.int .i64 cx) ∧ Below W3.heap.size W3 W) :=
    Lib.hid fun W hb => ⟨cell_bl hb hwl3 l0, cell_bl hb hwl3 l1, cell_bl hb hwl3 l2, hb⟩
  go_region_held3 (fun w' => w'.cell? ⟨w.heap.size, 0, none⟩ = some (.int .i64 c) ∧ w'.cell? ⟨w.heap.size, 1, none⟩ = some (.bool back) ∧ w'.cell? ⟨w.heap.size, 2, none⟩ = some (.int .i64 cx) ∧ Below W3.heap.size W3 w')
    ((refine HK.out _ ?_; repeat (first | assumption | exact Below.refl _ _ | refine Below.drew ?_)))
    ((go_at_call 14; refine (HAT.out _ (by repeat (first | assumption | exact Below.refl _ _ | refine Below.drew ?_))).mono ?_; rintro e w4 ⟨rfl, hb4⟩))
  obtain ⟨m0, m1, m2, _⟩ := HK.out _ hb4
  have hbw : ∀ W, Below W3.heap.size W3 W → Below w.heap.size w W := fun W hb => HB3.out.trans (hb.mono (by omega))
  have HRA : Hid (Calls Tryz.prog 15 #[.slice pa n ca, .agg #[.int .i64 c, .bool back, .int .i64 cx]] w4 fun e w' => e = .returned (.int .i64 (atI (atsOf l) c back)) ∧ Below W3.heap.size W3 w') :=
    Lib.hid ((rAt_any pa ca n l HN.out (by omega) c cx back w4 (HA.out _ (hbw _ hb4))).mono fun e w' ⟨h1, h2⟩ => ⟨h1, hb4.trans (h2.mono hb4.size)⟩)
  have HSM : Hid (∀ W, Below W3.heap.size W3 W → Calls Tryz.prog 11 #[.slice (some ⟨G, 0, none⟩) n cap, .slice pa n ca] W fun e w' => e = .returned (.bool true) ∧ Below W3.heap.size W3 w' ∧ w'.cell? ⟨G, n * 5, none⟩ = some (.int .i64 (-7))) :=
    Lib.hid fun W hb => (same_any _ pa cap ca n n l l HN.out HN.out (by omega) (by omega) W (HRD.out.below hb) (HA.out _ (hbw _ hb))).mono fun e w' ⟨h1, d, h2⟩ => by
      rw [decide_eq_true rfl] at h1
      have hb' : Below W3.heap.size W3 w' := h2 ▸ bl_drewN hb d
      exact ⟨h1, hb', cell_bl hb' hG HM7.out⟩
  have HWK : Hid (∀ W, Below W3.heap.size W3 W → Calls Tryz.prog 13 #[] W fun e w' => e = .returned (.bool true) ∧ Below W3.heap.size W3 w') :=
    Lib.hid fun W hb => (works_any W (HT.out _ (hbw _ hb)) (HD.out _ (hbw _ hb))).mono fun e w' ⟨h1, h2⟩ => ⟨h1, hb.trans (h2.mono hb.size)⟩
  have HBW := Lib.hid hbw
  have g3 : (n : Int) < (n : Int) + 1 := by omega
  clear l0 l1 l2 hbw HAT HK HX3 HM7 HRD HT HD HA hb4
  obtain ⟨V, hV⟩ : ∃ V, atI (atsOf l) c back = V := ⟨_, rfl⟩
  rw [hV] at HRA ⊢
  clear hV
  go_wp2_with (first
    | (go_at_call 13; refine (HWK.out _ hb6).mono ?_; rintro e w7 ⟨rfl, hb7⟩)
    | (go_at_call 11; refine (HSM.out _ hb5).mono ?_; rintro e w6 ⟨rfl, hb6, z7⟩)
    | (go_at_call 15; refine HRA.out.mono ?_; rintro e w5 ⟨rfl, hb5⟩))
  trace_state
  go_ret
  exact ⟨rfl, HBW.out _ hb7⟩
end Go.Proofs.YtphlhnkenehnnaaGreatDoor
