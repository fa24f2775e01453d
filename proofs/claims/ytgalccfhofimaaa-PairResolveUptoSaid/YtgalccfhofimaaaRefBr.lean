/- Contracts of the document's answer for brackets (layers 2 and 9): count, Neutral, Way, side, Brackets (the table), Pair, put, Brackets. -/
import Derived.Test.YtgalccfhofimaaaPairA
import Derived.Test.YtgalccfhofimaaaPlain09
import Derived.Test.YtgalccfhofimaaaStack
import Derived.Test.YtgalccfhofimaaaPairs
import Derived.Maps.AppendAt
import Derived.IntWalk
import Derived.Deep.DeepCutAuto
import Derived.Deep.RegionHeld3
import Derived.Deep.RegionLaw
namespace Go.Proofs.Ytgalccfhofimaaa
set_option linter.unusedVariables false
set_option linter.unusedSimpArgs false
open Go.RowKit

set_option maxHeartbeats 400000 in
theorem refCount_any (ra ka : Option Addr) (n m rc kc : Nat) (w : World) :
    Calls Try.prog 21 #[.slice ra n rc, .slice ka m kc] w fun e w' => e = .returned (.int .i64 (min n m : Nat)) ∧ w = w' := by
  go_enter Try.func21, Try.ntmps21
  go_wp2
  all_goals (go_ret; exact ⟨ret_i (by omega), rfl⟩)

set_option maxHeartbeats 400000 in
theorem refWay_any (k : Int) (w : World) :
    Calls Try.prog 44 #[.int .i8 k] w fun e w' => e = .returned (.int .i8 (if k = 0 then 0 else 1)) ∧ w = w' := by
  go_enter Try.func44, Try.ntmps44
  go_wp2
  all_goals (go_ret; simp_all)

set_option maxHeartbeats 400000 in
theorem refSide_any (k : Int) (w : World) :
    Calls Try.prog 31 #[.int .i8 k] w fun e w' => e = .returned (.int .i8 (sideI k)) ∧ w = w' := by
  go_enter Try.func31, Try.ntmps31
  go_wp2
  all_goals (go_ret; simp_all [sideI])

def kx (k : Nat) : Nat := if k % 2 = 0 then k + 1 else k - 1
theorem pair_hit2 : ∀ k, k < 30 → pairI (ith brL k) = (ith brL (kx k), decide (k % 2 = 0), true) ∧ kx k < 30 ∧ bits .xor .i64 (k : Int) 1 = (kx k : Int) := by decide +kernel

def BrTab (w : World) (e : Ending) (w' : World) : Prop :=
  ∃ b, e = .returned (.slice (some ⟨b, 0, none⟩) 30 30) ∧ (∀ i, i < 30 → w'.cell? ⟨b, i, none⟩ = some (.int .i32 (ith brL i))) ∧ Below w.heap.size w w'
set_option maxRecDepth 100000 in
set_option maxHeartbeats 1000000 in
theorem refTab_any (w : World) : Calls Try.prog 39 #[] w (BrTab w) := by
  go_enter Try.func39, Try.ntmps39
  go_wp2
  go_ret
  refine ⟨w.heap.size, rfl, fun i hi => ?_, (Below.refl _ _).alloc (Nat.le_refl _) _⟩
  have h := heap_alloc_new w (.cells (brL.map (Value.int .i32)).toArray 21)
  show (w.alloc (.cells (brL.map (Value.int .i32)).toArray 21)).cell? _ = _
  unfold World.cell?
  rw [h]
  show ((brL.map (Value.int .i32)).toArray)[i]? = _
  rw [List.getElem?_toArray, List.getElem?_map, ith_get (by simpa [brL] using hi)]
  rfl

def RefPairPost (r : Int) (w : World) (e : Ending) (w' : World) : Prop :=
  e = .returned (.tuple #[.int .i32 (pairI r).1, .bool (pairI r).2.1, .bool (pairI r).2.2]) ∧ Below w.heap.size w w'
set_option maxHeartbeats 1000000 in
theorem RefPair_any (r : Int) (w : World) : Calls Try.prog 22 #[.int .i32 r] w (RefPairPost r w) := by
  go_enter Try.func22, Try.ntmps22
  go_wp2_with (go_at_call 39; refine (refTab_any _).mono ?_; rintro e w1 ⟨b, rfl, hcells, hbel⟩)
  go_loopw [6] (fun i wx => wx = w1 ∧ ∃ k : Nat, k ≤ 30 ∧ i = .int .i64 k ∧ ∀ j, j < k → ith brL j ≠ r) (fun i _ => 30 - (intOf i).toNat)
  case atStart => exact ⟨rfl, 0, by omega, rfl, fun j hj => absurd hj (by omega)⟩
  case round =>
    obtain ⟨rfl, k, hk, rfl, hmiss⟩ := hrel
    have HM := Lib.hid hmiss
    clear hmiss
    by_cases hlt : k < 30
    · obtain ⟨p4, p5, p6⟩ := pair_hit2 k hlt
      have hc1 := hcells k hlt
      have hc2 := hcells (kx k) p5
      have HC := Lib.hid hcells
      clear hcells
      have HX := Lib.hid p4
      clear p4
      generalize hx : ith brL k = x at hc1
      generalize hx2 : ith brL (kx k) = x2 at hc2
      have HX1 := Lib.hid hx
      have HX2 := Lib.hid hx2
      clear hx hx2
      generalize hkx : kx k = k2 at p5 p6 hc2
      clear hkx
      by_cases hr : x = r
      · subst hr
        have e2 := beq_even k
        go_wp2_with (fail)
        go_ret3
        have h := HX.out
        rw [HX1.out, HX2.out] at h
        exact ⟨ret_ibb (by rw [h]) (by rw [h]) (by rw [h]), hbel⟩
      · go_wp2_with (fail)
        go_roundw
        case rel => exact ⟨trivial, k + 1, by omega, by go_num, fun j hj e => by
          by_cases h : j = k
          · subst h; exact hr (HX1.out.symm.trans e)
          · exact HM.out j (by omega) e⟩
        case measure => simp [intOf]; omega
    · go_wp2_with (fail)
      go_ret3
      have hm := pairI_miss r (fun j hj => HM.out j (by omega))
      exact ⟨ret_ibb (by rw [hm]) (by rw [hm]) (by rw [hm]), hbel⟩

set_option maxHeartbeats 400000 in
theorem refNeutral_any (k : Int) (w : World) :
    Calls Try.prog 43 #[.int .i8 k] w fun e w' => e = .returned (.bool (neutralB k)) ∧ w = w' := by
  go_enter Try.func43, Try.ntmps43
  go_wp2
  all_goals (go_ret; refine ⟨ret_b ?_, rfl⟩; simp_all [neutralB, wayI]; try (by_cases h6 : k = 6 <;> simp_all))

def PutPost (l : List (Nat × Nat)) (p : Nat × Nat) (w : World) (e : Ending) (w' : World) : Prop :=
  ∃ (v : Value) (l' : List (Nat × Nat)), l'.Perm (l ++ [p]) ∧ l'.Pairwise (fun a b => a.1 ≤ b.1) ∧ e = .returned v ∧ w'.ownsRow w.heap.size 29 2 v l'.length (l'.flatMap pcell) ∧ Below w.heap.size w w'

theorem put_plain (l : List (Nat × Nat)) (p : Nat × Nat) (k : Nat) (hk : k ≤ l.length) (hs : l.Pairwise (fun a b => a.1 ≤ b.1)) (hlo : k = 0 ∨ (l.getD (k - 1) (0, 0)).1 ≤ p.1) (hhi : ∀ j, k ≤ j → j < l.length → p.1 < (l.getD j (0, 0)).1) :
    (l.take k ++ [p] ++ l.drop k).Perm (l ++ [p]) ∧ (l.take k ++ [p] ++ l.drop k).Pairwise (fun a b => a.1 ≤ b.1) := by
  have hg : ∀ j (h : j < l.length), l.getD j (0, 0) = l[j] := fun j h => by rw [List.getD_eq_getElem?_getD, List.getElem?_eq_getElem h]; rfl
  constructor
  · rw [List.append_assoc]
    refine (List.Perm.append_left _ (List.perm_append_comm)).trans ?_
    rw [← List.append_assoc, List.take_append_drop]
  · have hlo' : ∀ a ∈ l.take k, a.1 ≤ p.1 := fun a ha => by
      obtain ⟨j, hj, rfl⟩ := List.mem_iff_getElem.1 ha
      rw [List.length_take] at hj
      rw [List.getElem_take]
      rcases hlo with h0 | h0
      · omega
      · rw [hg _ (by omega)] at h0
        by_cases e : j = k - 1
        · subst e; exact h0
        · exact Nat.le_trans (List.pairwise_iff_getElem.1 hs j (k - 1) (by omega) (by omega) (by omega)) h0
    have hhi' : ∀ a ∈ l.drop k, p.1 ≤ a.1 := fun a ha => by
      obtain ⟨j, hj, rfl⟩ := List.mem_iff_getElem.1 ha
      rw [List.length_drop] at hj
      rw [List.getElem_drop]
      have := hhi (k + j) (by omega) (by omega)
      rw [hg _ (by omega)] at this
      omega
    rw [List.append_assoc, List.pairwise_append]
    refine ⟨hs.sublist (List.take_sublist _ _), ?_, fun a ha b hb => ?_⟩
    · rw [List.singleton_append, List.pairwise_cons]
      exact ⟨fun a ha => hhi' a ha, hs.sublist (List.drop_sublist _ _)⟩
    · rw [List.singleton_append, List.mem_cons] at hb
      rcases hb with rfl | hb
      · exact hlo' a ha
      · exact Nat.le_trans (hlo' a ha) (hhi' b hb)
theorem flat_drop2 {α : Type} (l : List α) (f : α → List Value) (hf : ∀ x, (f x).length = 2) (m : Nat) : (l.drop m).flatMap f = (l.flatMap f).drop (m * 2) := by
  induction l generalizing m with
  | nil => simp
  | cons x l ih =>
    cases m with
    | zero => simp
    | succ m =>
      have h2 : (f x).length = 2 := hf x
      rw [List.drop_succ_cons, List.flatMap_cons, ih, show (m + 1) * 2 = (f x).length + m * 2 by omega, List.drop_append, List.drop_of_length_le (l := f x) (by omega), List.nil_append, Nat.add_sub_cancel_left]
theorem pcell_one {l : List (Nat × Nat)} : ∀ u ∈ l.flatMap pcell, u.oneCell' = true := fun u hu => by
  obtain ⟨x, _, hx⟩ := List.mem_flatMap.1 hu
  simp only [pcell, List.mem_cons, List.not_mem_nil, or_false] at hx
  rcases hx with rfl | rfl <;> rfl
theorem PairsAt.caps {w : World} {base cap : Nat} {pa : Option Addr} {l : List (Nat × Nat)} (h : PairsAt w base pa cap l) : l.length ≤ cap ∧ cap ≤ maxLen := by
  rcases h.2 with ⟨h1, h0⟩ | ⟨g, cap', cur, h1, hb, hh, hc, hm, hs, ht⟩
  · simp only [Value.slice.injEq] at h1; unfold maxLen; omega
  · simp only [Value.slice.injEq] at h1; obtain ⟨_, _, rfl⟩ := h1; exact ⟨hc, hm⟩
theorem PairsAt.src1 {w w' : World} {base cap : Nat} {pa : Option Addr} {l : List (Nat × Nat)} (h : PairsAt w base pa cap l) (hb : Below w.heap.size w w') (k : Nat) (hk : k ≤ l.length) :
    k = 0 ∨ ∃ ad, pa = some ad ∧ ∀ j u, ((l.take k).flatMap pcell)[j]? = some u → w'.cell? (ad.add j) = some u := by
  by_cases h0 : k = 0
  · exact .inl h0
  · obtain ⟨G, rfl, _, hG, _, _⟩ := h.at 0 (by omega)
    refine .inr ⟨_, rfl, fun j u hu => ?_⟩
    rw [flat_take2 _ _ (fun _ => rfl), List.getElem?_take] at hu
    split at hu
    · rw [Addr.add_lit, Nat.zero_add]
      exact cell_bl hb hG ((World.ownsRow.cellAt h j (by omega)).trans hu)
    · cases hu
theorem PairsAt.src2 {w w' : World} {base cap : Nat} {pa : Option Addr} {l : List (Nat × Nat)} (h : PairsAt w base pa cap l) (hb : Below w.heap.size w w') (k : Nat) (hk : k ≤ l.length) :
    l.length - k = 0 ∨ ∃ ad, pa.map (·.add (k * 2)) = some ad ∧ ∀ j u, ((l.drop k).flatMap pcell)[j]? = some u → w'.cell? (ad.add j) = some u := by
  by_cases h0 : l.length - k = 0
  · exact .inl h0
  · obtain ⟨G, rfl, _, hG, _, _⟩ := h.at 0 (by omega)
    refine .inr ⟨_, rfl, fun j u hu => ?_⟩
    have hj : j < (l.length - k) * 2 := by
      have := (List.getElem?_eq_some_iff.1 hu).1
      rw [flat_len2 _ _ (fun _ => rfl), List.length_drop] at this
      exact this
    rw [flat_drop2 _ _ (fun _ => rfl), List.getElem?_drop] at hu
    show w'.cell? (((⟨G, 0, none⟩ : Addr).add (k * 2)).add j) = _
    rw [Addr.add_lit, Addr.add_lit, Nat.zero_add]
    exact cell_bl hb hG ((World.ownsRow.cellAt h (k * 2 + j) (by omega)).trans hu)
theorem put_row {w w3 : World} {l : List (Nat × Nat)} {p q k t : Nat} {v3 : Value} (hk : k ≤ l.length)
    (h : w3.ownsRow (w.heap.size + 1) t 2 v3 (k + 1 + (l.length - k)) ((l.take k).flatMap pcell ++ [.int .i64 p, .int .i64 q] ++ (l.drop k).flatMap pcell)) :
    w3.ownsRow w.heap.size t 2 v3 (l.take k ++ [(p, q)] ++ l.drop k).length ((l.take k ++ [(p, q)] ++ l.drop k).flatMap pcell) := by
  have e1 : (l.take k ++ [(p, q)] ++ l.drop k).length = k + 1 + (l.length - k) := by simp; omega
  have e2 : (l.take k ++ [(p, q)] ++ l.drop k).flatMap pcell = (l.take k).flatMap pcell ++ [.int .i64 p, .int .i64 q] ++ (l.drop k).flatMap pcell := by simp [List.flatMap_append, pcell]
  rw [e1, e2]
  exact ownsRow_base h (by omega)
theorem drewN_add (w : World) (a b : Nat) : (w.drewN a).drewN b = w.drewN (a + b) := by simp [World.drewN, Nat.add_assoc]
theorem perm_le {l out : List (Nat × Nat)} (h : l.Perm out) : l.length = out.length := h.length_eq

set_option maxRecDepth 100000 in
set_option maxHeartbeats 1000000 in
theorem refPut_any (pa : Option Addr) (cap base : Nat) (l : List (Nat × Nat)) (p q : Nat) (w : World) (h : PairsAt w base pa cap l) (hs : l.Pairwise (fun a b => a.1 ≤ b.1)) (hn : l.length ≤ 2097152) :
    Calls Try.prog 23 #[.slice pa l.length cap, .agg #[.int .i64 p, .int .i64 q]] w (PutPost l (p, q) w) := by
  obtain ⟨i29, hi29, hz29, ha29, hb29⟩ := info_parts (Try.info_two)
  have HS := Lib.hid hs
  clear hs
  obtain ⟨hcap, hcm⟩ := h.caps
  unfold maxLen at hcm
  go_enter Try.func23, Try.ntmps23
  go_wp2_with (fail)
  obtain ⟨w0, hw0⟩ : ∃ w0, w0 = w.alloc (.cells #[.int .i64 p, .int .i64 q] 29) := ⟨_, rfl⟩
  have hb0 : Below w.heap.size w w0 := by rw [hw0]; exact (Below.refl _ _).alloc (Nat.le_refl _) _
  have hs0 : w0.heap.size = w.heap.size + 1 := by rw [hw0]; simp
  have hp0 : w0.cell? ⟨w.heap.size, 0, none⟩ = some (.int .i64 p) := by rw [hw0]; unfold World.cell?; rw [heap_alloc_new]; rfl
  have hp1 : w0.cell? ⟨w.heap.size, 1, none⟩ = some (.int .i64 q) := by rw [hw0]; unfold World.cell?; rw [heap_alloc_new]; rfl
  rw [← hw0]
  have HW0 := Lib.hid hw0
  clear hw0
  go_loopw [5] (fun c wx => ∃ (k nq : Nat), k ≤ l.length ∧ c = .int .i64 k ∧ wx = w0.drewN nq ∧ ∀ j, k ≤ j → j < l.length → p < (l.getD j (0, 0)).1) (fun c _ => (intOf c).toNat)
  case atStart => exact ⟨l.length, 0, Nat.le_refl _, rfl, rfl, fun j h1 h2 => absurd h2 (by omega)⟩
  case round =>
    obtain ⟨k, nq, hk, rfl, rfl, hhi⟩ := hrel
    have HHI := Lib.hid hhi
    clear hhi
    by_cases hgo : 0 < k ∧ p < (l.getD (k - 1) (0, 0)).1
    · obtain ⟨k', rfl⟩ : ∃ k', k = k' + 1 := ⟨k - 1, by omega⟩
      obtain ⟨G, rfl, hG, hGl, hc0, hc1⟩ := h.at k' (by omega)
      have hgt := hgo.2
      rw [Nat.add_sub_cancel] at hgt
      clear hgo
      generalize hx : (l.getD k' (0, 0)).1 = x at hc0 hgt
      have hc0' := cell_bl hb0 hGl hc0
      have HX := Lib.hid hx
      clear hx
      go_wp2_with (fail)
      go_quiet (fail)
      go_wp2_with (fail)
      go_roundw
      case rel => exact ⟨k', _, by omega, rfl, rfl, fun j h1 h2 => by
        by_cases e : j = k'
        · subst e; rw [HX.out]; exact hgt
        · exact HHI.out j (by omega) h2⟩
      case measure => simp [intOf]
    · go_upto_region 2 with (fail)
      go_cut [21] (fun t wx => t = .bool false ∧ ∃ m, wx = w0.drewN m)
      case first =>
        by_cases h0 : k = 0
        · subst h0
          go_wp2_with (fail)
          go_quiet (fail)
          go_wp2_with (fail)
          all_goals (go_meet; first | exact ⟨rfl, _, rfl⟩ | exact ⟨rfl, _, drewN_add w0 _ _⟩)
        · obtain ⟨k', rfl⟩ : ∃ k', k = k' + 1 := ⟨k - 1, by omega⟩
          obtain ⟨G, rfl, hG, hGl, hc0, hc1⟩ := h.at k' (by omega)
          have hgt : (l.getD k' (0, 0)).1 ≤ p := by rw [Nat.add_sub_cancel] at hgo; omega
          clear hgo
          generalize hx : (l.getD k' (0, 0)).1 = x at hc0 hgt
          have hc0' := cell_bl hb0 hGl hc0
          have HX := Lib.hid hx
          clear hx
          have hd : decide (p < x) = false := decide_eq_false (by omega)
          go_wp2_with (fail)
          go_quiet (fail)
          go_wp2_with (fail)
          all_goals (go_meet; first | exact ⟨rfl, _, rfl⟩ | exact ⟨rfl, _, drewN_add w0 _ _⟩)
      case rest =>
        obtain ⟨rfl, m, rfl⟩ := hcut
        have hpl := put_plain l (p, q) k hk HS.out (by omega) HHI.out
        have HPL := Lib.hid hpl
        clear hpl hgo
        go_upto_region 5 with (fail)
        have hk1 : (k : Int) ≤ (cap : Int) := by omega
        have hk0 : (0 : Int) ≤ (k : Int) := by omega
        have hb0m := bl_drewN hb0 m
        have hsz0 : (w0.drewN m).heap.size = w.heap.size + 1 := hs0
        have hp0m : (w0.drewN m).cell? ⟨w.heap.size, 0, none⟩ = some (.int .i64 p) := hp0
        have hp1m : (w0.drewN m).cell? ⟨w.heap.size, 1, none⟩ = some (.int .i64 q) := hp1
        generalize w0.drewN m = wm at hb0m hsz0 hp0m hp1m
        clear hp0 hp1 hb0 hs0
        have HSRC := Lib.hid (h.src1 hb0m k hk)
        have hl1 : ((l.take k).flatMap pcell).length = k * 2 := by rw [flat_len2 _ _ (fun _ => rfl), List.length_take]; omega
        have HL1 := Lib.hid hl1
        clear hl1
        have HN := Lib.hid hn
        go_upto_region 6 with (at_builtin; refine wpList_append_src _ rfl (.tmp 24) (.tmp 27) 26 rfl (w.heap.size + 1) 29 i29 _ 2 16 Try.underlying26 hi29 hz29 ha29 hb29 rfl (by omega) (.slice none 0 0) 0 [] rfl (World.ownsRow_nil _ _ _ _) pa k cap ((l.take k).flatMap pcell) rfl HL1.out HSRC.out pcell_one (by unfold maxLen; omega) (by omega) (by omega) ?_; intro v1 w1 hown1 hg1)
        rw [Nat.zero_add, List.nil_append] at hown1
        have hbw1 := hb0m.grown hg1 (by omega) (fun k hk => by cases hk)
        have hs1 : w.heap.size + 1 ≤ w1.heap.size := by have := hg1.size; omega
        have hq0 : w1.cell? ⟨w.heap.size, 0, none⟩ = some (.int .i64 p) := (hg1.cell_far ⟨w.heap.size, 0, none⟩ (by show w.heap.size < _; omega) (by simp [Value.ownBlock])).trans hp0m
        have hq1 : w1.cell? ⟨w.heap.size, 1, none⟩ = some (.int .i64 q) := (hg1.cell_far ⟨w.heap.size, 1, none⟩ (by show w.heap.size < _; omega) (by simp [Value.ownBlock])).trans hp1m
        clear hg1 hp0m hp1m hb0m hsz0 HSRC
        go_upto_region 7 with (at_builtin; refine wpList_append_own _ rfl (.tmp 29) (.tmp 31) 26 rfl (w.heap.size + 1) 29 i29 _ 2 16 Try.underlying26 hi29 hz29 ha29 hb29 rfl (by omega) v1 k _ rfl (hown1.alloc _) ⟨w1.heap.size, 0, none⟩ 1 1 [.int .i64 p, .int .i64 q] rfl rfl (World.news_of_block (cs := #[.int .i64 p, .int .i64 q]) (t := 29) (fr := (0, 0)) (heap_alloc_new _ _)) (by simp [Value.oneCell']) (by unfold maxLen; omega) (by omega) (by simp; omega) ?_; intro v2 w2 hown2 hg2 _)
        have hbw2 := (hbw1.alloc (by omega) _).grown hg2 (by simp; omega) (fun k hk => by have := (hown1.lt k hk).1; omega)
        have hs2 : w.heap.size + 1 ≤ w2.heap.size := by have := hg2.size; simp at this; omega
        clear hg2 hown1 hq0 hq1 hbw1 HL1
        have HSRC := Lib.hid (h.src2 hbw2 k hk)
        have hl2 : ((l.drop k).flatMap pcell).length = (l.length - k) * 2 := by rw [flat_len2 _ _ (fun _ => rfl), List.length_drop]
        have HL2 := Lib.hid hl2
        clear hl2
        by_cases hck : cap = k
        · go_wp2_with (at_builtin; refine wpList_append_src _ rfl (.tmp 33) (.tmp 36) 26 rfl (w.heap.size + 1) 29 i29 _ 2 16 Try.underlying26 hi29 hz29 ha29 hb29 rfl (by omega) v2 (k + 1) _ rfl hown2 _ (l.length - k) _ ((l.drop k).flatMap pcell) rfl HL2.out (.inl (by omega)) pcell_one (by unfold maxLen; omega) (by omega) (by omega) ?_; intro v3 w3 hown3 hg3)
          go_ret
          have hbw3 := hbw2.grown hg3 (by omega) (fun k hk => by have := (hown2.lt k hk).1; omega)
          exact ⟨v3, _, HPL.out.1, HPL.out.2, rfl, put_row hk hown3, hbw3⟩
        · go_wp2_with (at_builtin; refine wpList_append_src _ rfl (.tmp 33) (.tmp 36) 26 rfl (w.heap.size + 1) 29 i29 _ 2 16 Try.underlying26 hi29 hz29 ha29 hb29 rfl (by omega) v2 (k + 1) _ rfl hown2 _ (l.length - k) _ ((l.drop k).flatMap pcell) rfl HL2.out HSRC.out pcell_one (by unfold maxLen; omega) (by omega) (by omega) ?_; intro v3 w3 hown3 hg3)
          go_ret
          have hbw3 := hbw2.grown hg3 (by omega) (fun k hk => by have := (hown2.lt k hk).1; omega)
          exact ⟨v3, _, HPL.out.1, HPL.out.2, rfl, put_row hk hown3, hbw3⟩
end Go.Proofs.Ytgalccfhofimaaa
