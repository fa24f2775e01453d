/- The law PairBrackets of layer 9: at any characters and kinds (at most 2097152) it answers true, and nothing that was there changes. -/
import Derived.Test.YtgalccfhofimaaaLawBr
import Derived.Test.YtgalccfhofimaaaPlain09C
import Derived.Test.YtgalccfhofimaaaAlive
namespace Go.Proofs.Ytgalccfhofimaaa
set_option linter.unusedVariables false
set_option linter.unusedSimpArgs false
open Go.RowKit

theorem brk_unique {rs ks : List Int} {n : Nat} {l1 l2 : List (Nat × Nat)} (h1 : l1.Perm (brkF rs ks n 0 [] [])) (h2 : l2.Perm (brkF rs ks n 0 [] [])) (s1 : l1.Pairwise (fun a b => a.1 ≤ b.1)) (s2 : l2.Pairwise (fun a b => a.1 ≤ b.1)) : l1 = l2 := by
  have a1 := ((brkF_all rs ks n).perm h1).apart
  have a2 := ((brkF_all rs ks n).perm h2).apart
  have t1 : l1.Pairwise (fun a b => a.1 < b.1) := (s1.and a1).imp (fun {a b} h => by have h1 := h.1; have h2 := h.2.1; omega)
  have t2 : l2.Pairwise (fun a b => a.1 < b.1) := (s2.and a2).imp (fun {a b} h => by have h1 := h.1; have h2 := h.2.1; omega)
  exact List.Perm.eq_of_pairwise (fun a b _ _ h1 h2 => absurd h1 (by omega)) t1 t2 (h1.trans h2.symm)
theorem brkF_len (rs ks : List Int) : ∀ (m i : Nat) (st : List (Nat × Int)) (out : List (Nat × Nat)), (brkF rs ks m i st out).length ≤ out.length + m
  | 0, i, st, out => by rw [brkF]; omega
  | m + 1, i, st, out => by
    unfold brkF
    split
    · have := brkF_len rs ks m (i + 1) st out; omega
    · split
      · split
        · omega
        · have := brkF_len rs ks m (i + 1) (st ++ [(i, (pairI (ith rs i)).1)]) out; omega
      · split
        · have := brkF_len rs ks m (i + 1) st out; omega
        · rename_i k _
          have := brkF_len rs ks m (i + 1) (st.take k) (out ++ [((st.getD k (0, 0)).1, i)])
          rw [List.length_append, List.length_singleton] at this
          omega
theorem grownBy_trans {w w1 w2 : World} {row : Option Nat} (h1 : w.grownBy w1 row) (h2 : w1.grownBy w2 row) : w.grownBy w2 row :=
  ⟨h2.os.trans h1.os, h2.tape.trans h1.tape, h2.output.trans h1.output, Nat.le_trans h1.size h2.size, fun k hk hne => (h2.block k (Nat.lt_of_lt_of_le hk h1.size) hne).trans (h1.block k hk hne)⟩
theorem own_frozen {w : World} {base e size n cap G : Nat} {xs : List Value} (h : w.ownsRow base e size (.slice (some ⟨G, 0, none⟩) n cap) n xs) (i : Nat) : w.frozen? ⟨G, i, none⟩ = false := by
  rcases h.2 with ⟨h1, h0⟩ | ⟨g, cap', cur, h1, hb, hh, hc, hm, hs, ht⟩
  · simp at h1
  · simp only [Value.slice.injEq, Option.some.injEq, Addr.mk.injEq, and_true, true_and] at h1
    obtain ⟨rfl, rfl⟩ := h1
    simp [World.frozen?, hh]
theorem PairsAt.low {w : World} {base base' cap : Nat} {pa : Option Addr} {l : List (Nat × Nat)} (h : PairsAt w base pa cap l) (hb : base' ≤ base) : PairsAt w base' pa cap l := ownsRow_base h hb
theorem row_grown {w w' : World} {base e size n : Nat} {v : Value} {xs : List Value} {row : Option Nat} (h : w.ownsRow base e size v n xs) (hg : w.grownBy w' row) (hne : ∀ i j, v.ownBlock = some i → row = some j → i ≠ j) : w'.ownsRow base e size v n xs := by
  refine World.ownsRow.kept h hg ?_
  cases hv : v.ownBlock with
  | none => exact .inl rfl
  | some i => exact .inr fun e => hne i i hv e.symm rfl

set_option maxRecDepth 100000 in
set_option maxHeartbeats 2000000 in
theorem PairBrackets_any (ra ka : Option Addr) (rs ks : List Int) (rc kc : Nat) (w : World) (hr : Rd .i32 w ra rs) (hk : Rd .i8 w ka ks) (hrn : rs.length ≤ 2097152) (hkn : ks.length ≤ 2097152) :
    Calls Try.prog 3 #[.slice ra rs.length rc, .slice ka ks.length kc] w fun e w' => e = .returned (.bool true) ∧ Below w.heap.size w w' := by
  obtain ⟨i29, hi29, hz29, ha29, hb29⟩ := info_parts (Try.info_two)
  have hkept := kept_any ra ka rs ks rc kc w hr hk hrn hkn
  go_enter Try.func3, Try.ntmps3
  go_upto_region 2 with (go_at_call 8; refine hkept.mono ?_; rintro e w1 ⟨a1, c1, a2, c2, rfl, hO1, hO2, hb1⟩)
  clear hkept
  have hR1 : Rd .i32 w1 a1 rs := by have := hO1.rd.take rs.length; rwa [List.take_left' rfl] at this
  have hK1 : Rd .i8 w1 a2 ks := by have := hO2.rd.take ks.length; rwa [List.take_left' rfl] at this
  go_upto_region 3 with (go_at_call 9; refine (Brackets_len a1 a2 rs ks _ _ _ _ _ rfl rfl hR1 hK1 hrn hkn).mono ?_; rintro e w2 ⟨v2, l, hp2, hs2, rfl, hown2, hb2⟩)
  obtain ⟨pa, ca, rfl, hA⟩ := PairsAt.of hown2
  have hbW2 := hb1.trans (hb2.mono hb1.size)
  go_upto_region 4 with (go_at_call 9; refine (Brackets_len a1 a2 rs ks _ _ _ _ _ rfl rfl (hR1.below hb2) (hK1.below hb2) hrn hkn).mono ?_; rintro e w3 ⟨v3, l3, hp3, hs3, rfl, hown3, hb3⟩)
  obtain rfl : l3 = l := brk_unique hp3 hp2 hs3 hs2
  obtain ⟨pb, cb, rfl, hB⟩ := PairsAt.of hown3
  have hbW3 := hbW2.trans (hb3.mono hbW2.size)
  go_upto_region 5 with (go_at_call 10; refine (RefBrackets_any ra ka rs ks _ _ _ (hr.below hbW3) (hk.below hbW3) hrn hkn).mono ?_; rintro e w4 ⟨v4, l4, hp4, hs4, rfl, hown4, hb4⟩)
  obtain rfl : l4 = l3 := brk_unique hp4 hp2 hs4 hs2
  obtain ⟨pc, cc, rfl, hC⟩ := PairsAt.of hown4
  have hbW4 := hbW3.trans (hb4.mono hbW3.size)
  have hl : l4.length ≤ 2097152 := by
    have h1 := hp2.length_eq
    have h2 := brkF_len rs ks (min rs.length ks.length) 0 [] []
    rw [List.length_nil] at h2
    omega
  have hA4 := (hA.keep hb3).keep hb4
  have hB4 := hB.keep hb4
  have hAlt := fun k hk => (World.ownsRow.lt hA k hk).2
  have hAge := fun k hk => (World.ownsRow.lt hA k hk).1
  have hOa := fun k hk => (World.ownsRow.lt hO1 k hk).2
  have hOb := fun k hk => (World.ownsRow.lt hO2 k hk).2
  have HA := Lib.hid (hA4.low hb1.size)
  have HB := Lib.hid (hB4.low hbW2.size)
  have HC := Lib.hid (hC.low hbW3.size)
  have HBlt := Lib.hid (fun k hk => (World.ownsRow.lt hB k hk).1)
  have HClt := Lib.hid (fun k hk => (World.ownsRow.lt hC k hk).1)
  have HO1 := Lib.hid (((hO1.keep hb2).keep hb3).keep hb4)
  have HO2 := Lib.hid (((hO2.keep hb2).keep hb3).keep hb4)
  have HAlt := Lib.hid hAlt
  have HAge := Lib.hid hAge
  have HOa := Lib.hid hOa
  have HOb := Lib.hid hOb
  have HW4 := Lib.hid hbW4
  have h12 := hb1.size
  have h23 := hb2.size
  have h34 := hb3.size
  have h45 := hb4.size
  clear hAlt hAge hOa hOb hA hB hC hA4 hB4 hO1 hO2 hown2 hown3 hown4 hb1 hb2 hb3 hb4 hp2 hp3 hp4 hs2 hs3 hs4 hbW2 hbW3 hbW4 hR1 hK1
  go_upto_region 7 with (go_at_call 11; refine (pairs_same _ _ _ _ w.heap.size w.heap.size l4 l4.length _ rfl (by first | exact HA.out | exact ownsRow_drewN HB.out _) (by first | exact HC.out | exact ownsRow_drewN HC.out _) hl).mono ?_; rintro e w5 ⟨rfl, m5, rfl⟩)
  go_wp2_with (fail)
  go_loopw [10] (fun c wx => ∃ (i : Nat) (xs : List Value), i ≤ l4.length ∧ c = .int .i64 i ∧ wx.ownsRow w.heap.size 29 2 (.slice pa l4.length ca) l4.length xs ∧ w4.grownBy wx (Value.slice pa l4.length ca).ownBlock) (fun c _ => l4.length - (intOf c).toNat)
  case atStart => exact ⟨0, _, by omega, rfl, HA.out, ⟨rfl, rfl, rfl, Nat.le_refl _, fun _ _ _ => rfl⟩⟩
  case round =>
    obtain ⟨i, xs, hi, rfl, hown, hgr⟩ := hrel
    by_cases hlt : i < l4.length
    · obtain ⟨G, rfl, hG1, hG2, hcells⟩ := own_cells hown (by omega)
      have hxl : xs.length = l4.length * 2 := hown.1
      have hc0 := hcells (i * 2) (by omega)
      have hc1 := hcells (i * 2 + 1) (by omega)
      rw [List.getElem?_eq_getElem (by omega)] at hc0 hc1
      generalize xs[i * 2]'(by omega) = y0 at hc0
      generalize xs[i * 2 + 1]'(by omega) = y1 at hc1
      have hf0 := own_frozen hown (i * 2)
      have hf1 := own_frozen hown (i * 2 + 1)
      clear hcells
      have hst := World.ownsRow.stored hown (i * 2) (.int .i64 (-1))
      have hst2 := World.ownsRow.stored hst.1 (i * 2 + 1) (.int .i64 (-1))
      have HST := Lib.hid (And.intro hst2.1 (grownBy_trans hgr (grownBy_trans hst.2 hst2.2)))
      clear hst hst2 hown hgr
      go_wp2_with (fail)
      go_roundw
      case rel => exact ⟨i + 1, _, by omega, by go_num, HST.out.1, HST.out.2⟩
      case measure => simp [intOf]; omega
    · have HG := Lib.hid hgr
      have hbx : Below w.heap.size w wr := HW4.out.grown hgr (by omega) (fun k hk => by have := HAge.out k hk; omega)
      clear hgr
      have hsx := hbx.size
      go_upto_region 12 with (at_builtin; refine wpList_append_own _ rfl (.tmp 46) (.tmp 48) 26 rfl w.heap.size 29 i29 _ 2 16 Try.underlying26 hi29 hz29 ha29 hb29 rfl (by omega) (.slice pa l4.length ca) l4.length _ rfl (hown.alloc _) ⟨wr.heap.size, 0, none⟩ 1 1 [.int .i64 0, .int .i64 0] rfl rfl (World.news_of_block (cs := #[.int .i64 0, .int .i64 0]) (t := 29) (fr := (0, 0)) (heap_alloc_new _ _)) (by simp [Value.oneCell']) (by unfold maxLen; omega) (by omega) (by simp; omega) ?_; intro v7 w7 hown7 hg7 _)
      obtain ⟨pa7, ca7, rfl, _, _⟩ := own_slice hown7
      have gr7 := grownBy_trans HG.out (grownBy_trans (World.grownBy_alloc wr _ _) hg7)
      have hb7 : Below w.heap.size w w7 := HW4.out.grown gr7 (by omega) (fun k hk => by have := HAge.out k hk; omega)
      have HB7 := Lib.hid (row_grown HB.out gr7 (fun i j h1 h2 => by have a := HBlt.out i h1; have b := HAlt.out j h2; omega))
      have HC7 := Lib.hid (row_grown HC.out gr7 (fun i j h1 h2 => by have a := HClt.out i h1; have b := HAlt.out j h2; omega))
      have HO17 := Lib.hid (row_grown HO1.out gr7 (fun i j h1 h2 => by have a := HOa.out i h1; have b := HAge.out j h2; omega))
      have HO27 := Lib.hid (row_grown HO2.out gr7 (fun i j h1 h2 => by have a := HOb.out i h1; have b := HAge.out j h2; omega))
      have HB7w := Lib.hid hb7
      clear hb7 gr7 hg7 hown7 hown hbx
      go_wp2_with (first
        | (go_at_call 11; refine (pairs_same _ _ _ _ w.heap.size w.heap.size l4 l4.length _ rfl (by exact HB7.out) (by exact HC7.out) hl).mono ?_; rintro e w8 ⟨rfl, m8, rfl⟩)
        | (go_at_call 12; refine (stay_any ra ka a1 a2 rs ks rc kc c1 c2 w.heap.size w.heap.size _ (hr.below (bl_drewN HB7w.out _)) (hk.below (bl_drewN HB7w.out _)) (by exact HO17.out) (by exact HO27.out) hrn hkn).mono ?_; rintro e w9 ⟨rfl, m9, rfl⟩)
        | (go_at_call 13; refine (alive_any _).mono ?_; rintro e w10 ⟨rfl, hb10⟩))
      go_ret
      exact ⟨rfl, (bl_drewN HB7w.out _).trans (hb10.mono HB7w.out.size)⟩
end Go.Proofs.Ytgalccfhofimaaa
