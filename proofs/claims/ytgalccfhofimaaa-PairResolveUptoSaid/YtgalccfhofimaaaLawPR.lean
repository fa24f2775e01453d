/- The law PairResolve of layer 9: at any characters, kinds, level and ends (at most 2097152 characters) it answers true, and nothing that was there changes. -/
import Derived.Test.YtgalccfhofimaaaRefRs
import Derived.Test.YtgalccfhofimaaaAlive
namespace Go.Proofs.Ytgalccfhofimaaa
set_option linter.unusedVariables false
set_option linter.unusedSimpArgs false
open Go.RowKit

theorem brk_one {rs ks : List Int} {n : Nat} {l1 l2 : List (Nat × Nat)} (h1 : l1.Perm (brkF rs ks n 0 [] [])) (h2 : l2.Perm (brkF rs ks n 0 [] [])) (s1 : l1.Pairwise (fun a b => a.1 ≤ b.1)) (s2 : l2.Pairwise (fun a b => a.1 ≤ b.1)) : l1 = l2 := by
  have a1 := ((brkF_all rs ks n).perm h1).apart
  have a2 := ((brkF_all rs ks n).perm h2).apart
  have t1 : l1.Pairwise (fun a b => a.1 < b.1) := (s1.and a1).imp (fun {a b} h => by have h1 := h.1; have h2 := h.2.1; omega)
  have t2 : l2.Pairwise (fun a b => a.1 < b.1) := (s2.and a2).imp (fun {a b} h => by have h1 := h.1; have h2 := h.2.1; omega)
  exact List.Perm.eq_of_pairwise (fun a b _ _ h1 h2 => absurd h1 (by omega)) t1 t2 (h1.trans h2.symm)

set_option maxHeartbeats 1000000 in
theorem same_eq (pa pb : Option Addr) (ca cb b1 b2 : Nat) (xs : List Int) (n : Nat) (w : World) (hn : xs.length = n) (ha : OutAt .i8 33 w b1 pa ca xs) (hb : OutAt .i8 33 w b2 pb cb xs) (hl : n ≤ 2097152) :
    Calls Try.prog 16 #[.slice pa n ca, .slice pb n cb] w fun e w' => e = .returned (.bool true) ∧ ∃ m, w' = w.drewN m := by
  subst hn
  go_enter Try.func16, Try.ntmps16
  go_wp2_with (fail)
  go_loopw [5] (fun c wx => ∃ (i m : Nat), i ≤ xs.length ∧ c = .int .i64 i ∧ wx = w.drewN m) (fun c _ => xs.length - (intOf c).toNat)
  case atStart => exact ⟨0, 0, by omega, rfl, rfl⟩
  case round =>
    obtain ⟨i, m, hi, rfl, rfl⟩ := hrel
    by_cases hlt : i < xs.length
    · obtain ⟨G1, rfl, _, _, hc0, _⟩ := ha.at i hlt
      obtain ⟨G2, rfl, _, _, hd0, _⟩ := hb.at i hlt
      generalize ith xs i = x at hc0 hd0
      go_wp2_with (fail)
      go_quiet (fail)
      go_wp2_with (fail)
      go_roundw
      case rel => exact ⟨i + 1, _, by omega, by go_num, rfl⟩
      case measure => simp [intOf]; omega
    · go_wp2_with (fail)
      go_ret
      exact ⟨rfl, _, rfl⟩

theorem res_out {rs ks : List Int} {level sos eos : Int} {w : World} {e : Ending} {w' : World} (h : ResPost rs ks level sos eos w e w') : ∃ (l : List (Nat × Nat)) (ao : Option Addr) (cap : Nat),
    l.Perm (brkF (rs.take (min rs.length ks.length)) (alF (min rs.length ks.length) 0 (ks.take (min rs.length ks.length))) (min rs.length ks.length) 0 [] []) ∧ l.Pairwise (fun a b => a.1 ≤ b.1) ∧ e = .returned (.slice ao (min rs.length ks.length) cap) ∧
    (resolveF rs ks level sos eos l).length = min rs.length ks.length ∧ OutAt .i8 33 w' w.heap.size ao cap (resolveF rs ks level sos eos l) ∧ Below w.heap.size w w' := by
  obtain ⟨v, l, h1, h2, rfl, h3, h4, h5⟩ := h
  obtain ⟨ao, cap, rfl, hO⟩ := OutAt.of h4 h3
  exact ⟨l, ao, cap, h1, h2, rfl, h3, hO, h5⟩
theorem OutAt.low {k : IntKind} {e base base' cap : Nat} {w : World} {ao : Option Addr} {out : List Int} (h : OutAt k e w base ao cap out) (hb : base' ≤ base) : OutAt k e w base' ao cap out := ownsRow_base h hb

set_option maxRecDepth 100000 in
set_option maxHeartbeats 2000000 in
theorem PairResolve_any (ra ka : Option Addr) (rs ks : List Int) (rc kc : Nat) (level : Nat) (sos eos : Int) (w : World) (hr : Rd .i32 w ra rs) (hk : Rd .i8 w ka ks) (hrn : rs.length ≤ 2097152) (hkn : ks.length ≤ 2097152)
    (hrc : rs.length ≤ rc) (hrm : rc ≤ maxLen) (hlv : level < 256) :
    Calls Try.prog 4 #[.slice ra rs.length rc, .slice ka ks.length kc, .int .u8 level, .int .i8 sos, .int .i8 eos] w fun e w' => e = .returned (.bool true) ∧ Below w.heap.size w w' := by
  have hkept := kept_any ra ka rs ks rc kc w hr hk hrn hkn
  obtain ⟨M, hM⟩ : ∃ M, min rs.length ks.length = M := ⟨_, rfl⟩
  have hMn : M ≤ 2097152 := by omega
  go_enter Try.func4, Try.ntmps4
  go_upto_region 2 with (go_at_call 8; refine hkept.mono ?_; rintro e w1 ⟨a1, c1, a2, c2, rfl, hO1, hO2, hb1⟩)
  clear hkept
  have hR1 : Rd .i32 w1 a1 rs := by have := hO1.rd.take rs.length; rwa [List.take_left' rfl] at this
  have hK1 : Rd .i8 w1 a2 ks := by have := hO2.rd.take ks.length; rwa [List.take_left' rfl] at this
  have hc1 : rs.length ≤ c1 := by have := out_cap' hO1; rw [List.length_append] at this; omega
  have hc2 : ks.length ≤ c2 := by have := out_cap' hO2; rw [List.length_append] at this; omega
  go_upto_region 3 with (go_at_call 14; refine (Resolve_len a1 a2 rs ks _ _ _ _ level sos eos _ rfl rfl hR1 hK1 hrn hkn hc1 hc2 hlv).mono ?_; intro e w2 h2; obtain ⟨l, pa, ca, hp2, hs2, rfl, hl2, hA, hb2⟩ := res_out h2)
  have hbW2 := hb1.trans (hb2.mono hb1.size)
  go_upto_region 4 with (go_at_call 14; refine (Resolve_len a1 a2 rs ks _ _ _ _ level sos eos _ rfl rfl (hR1.below hb2) (hK1.below hb2) hrn hkn hc1 hc2 hlv).mono ?_; intro e w3 h3; obtain ⟨l3, pb, cb, hp3, hs3, rfl, hl3, hB, hb3⟩ := res_out h3)
  obtain rfl : l3 = l := brk_one hp3 hp2 hs3 hs2
  have hbW3 := hbW2.trans (hb3.mono hbW2.size)
  go_upto_region 5 with (go_at_call 15; refine (RefResolve_any ra ka rs ks _ _ level sos eos _ (hr.below hbW3) (hk.below hbW3) hrn hkn hrc hrm hlv).mono ?_; intro e w4 h4; obtain ⟨l4, pc, cc, hp4, hs4, rfl, hl4, hC, hb4⟩ := res_out h4)
  obtain rfl : l4 = l3 := brk_one hp4 hp2 hs4 hs2
  have hbW4 := hbW3.trans (hb4.mono hbW3.size)
  clear h2 h3 h4
  generalize resolveF rs ks level sos eos l4 = L at hl2 hl3 hl4 hA hB hC
  rw [hM] at hl2
  have hA4 := (hA.keep hb3).keep hb4
  have hB4 := hB.keep hb4
  have hAlt := fun k hk => (World.ownsRow.lt hA k hk).2
  have hAge := fun k hk => (World.ownsRow.lt hA k hk).1
  have hOa := fun k hk => (World.ownsRow.lt hO1 k hk).2
  have hOb := fun k hk => (World.ownsRow.lt hO2 k hk).2
  have HA := Lib.hid (hA4.low hb1.size)
  have HB := Lib.hid (hB4.low hbW2.size)
  have HC := Lib.hid (hC.low hbW3.size)
  have HBlt := Lib.hid (fun k hk => (World.ownsRow.lt hB k hk).1)
  have HClt := Lib.hid (fun k hk => (World.ownsRow.lt hC k hk).1)
  have HO1 := Lib.hid (((hO1.keep hb2).keep hb3).keep hb4)
  have HO2 := Lib.hid (((hO2.keep hb2).keep hb3).keep hb4)
  have HAlt := Lib.hid hAlt
  have HAge := Lib.hid hAge
  have HOa := Lib.hid hOa
  have HOb := Lib.hid hOb
  have HW4 := Lib.hid hbW4
  have h12 := hb1.size
  have h23 := hb2.size
  have h34 := hb3.size
  have h45 := hb4.size
  clear hAlt hAge hOa hOb hA hB hC hA4 hB4 hO1 hO2 hb1 hb2 hb3 hb4 hp2 hp3 hp4 hs2 hs3 hs4 hbW2 hbW3 hbW4 hR1 hK1 hl3 hl4 hc1 hc2
  have HL2 := Lib.hid hl2
  clear hl2
  go_upto_region 7 with (go_at_call 16; refine (same_eq _ _ _ _ w.heap.size w.heap.size L M _ HL2.out (by first | exact HA.out | exact ownsRow_drewN HB.out _) (by first | exact HC.out | exact ownsRow_drewN HC.out _) hMn).mono ?_; rintro e w5 ⟨rfl, m5, rfl⟩)
  go_wp2_with (fail)
  go_loopw [16] (fun c wx => ∃ (i : Nat) (xs : List Int), i ≤ M ∧ c = .int .i64 i ∧ xs.length = M ∧ OutAt .i8 33 wx w.heap.size pa ca xs ∧ w4.grownBy wx (Value.slice pa L.length ca).ownBlock) (fun c _ => M - (intOf c).toNat)
  case atStart => exact ⟨0, L, by omega, rfl, HL2.out, HA.out, ⟨rfl, rfl, rfl, Nat.le_refl _, fun _ _ _ => rfl⟩⟩
  case round =>
    obtain ⟨i, xs, hi, rfl, hxl, hX, hgr⟩ := hrel
    have HXL := Lib.hid hxl
    clear hxl
    by_cases hlt : i < M
    · obtain ⟨G, rfl, hG1, hG2, hGc, hGf, _, _⟩ := hX.at i (by have := HXL.out; omega)
      have HST := Lib.hid (And.intro (hX.set i 55) (grownBy_trans hgr (World.ownsRow.stored hX i (.int .i8 55)).2))
      clear hX hgr
      go_wp2_with (fail)
      go_roundw
      case rel => exact ⟨i + 1, xs.set i 55, by omega, by go_num, by rw [List.length_set]; exact HXL.out, HST.out.1, HST.out.2⟩
      case measure => simp [intOf]; omega
    · have gr7 := hgr
      have hb7 : Below w.heap.size w wr := HW4.out.grown gr7 (by omega) (fun k hk => by have := HAge.out k hk; omega)
      have HB7 := Lib.hid (row_grown HB.out gr7 (fun i j h1 h2 => by have a := HBlt.out i h1; have b := HAlt.out j h2; omega))
      have HC7 := Lib.hid (row_grown HC.out gr7 (fun i j h1 h2 => by have a := HClt.out i h1; have b := HAlt.out j h2; omega))
      have HO17 := Lib.hid (row_grown HO1.out gr7 (fun i j h1 h2 => by have a := HOa.out i h1; have b := HAge.out j h2; omega))
      have HO27 := Lib.hid (row_grown HO2.out gr7 (fun i j h1 h2 => by have a := HOb.out i h1; have b := HAge.out j h2; omega))
      have HB7w := Lib.hid hb7
      clear hb7 gr7 hgr hX
      go_wp2_with (first
        | (go_at_call 16; refine (same_eq _ _ _ _ w.heap.size w.heap.size L M _ HL2.out (by exact HB7.out) (by exact HC7.out) hMn).mono ?_; rintro e w8 ⟨rfl, m8, rfl⟩)
        | (go_at_call 12; refine (stay_any ra ka a1 a2 rs ks rc kc c1 c2 w.heap.size w.heap.size _ (hr.below (bl_drewN HB7w.out _)) (hk.below (bl_drewN HB7w.out _)) (by exact HO17.out) (by exact HO27.out) hrn hkn).mono ?_; rintro e w9 ⟨rfl, m9, rfl⟩)
        | (go_at_call 13; refine (alive_any _).mono ?_; rintro e w10 ⟨rfl, hb10⟩))
      go_ret
      exact ⟨rfl, (bl_drewN HB7w.out _).trans (hb10.mono HB7w.out.size)⟩
end Go.Proofs.Ytgalccfhofimaaa
