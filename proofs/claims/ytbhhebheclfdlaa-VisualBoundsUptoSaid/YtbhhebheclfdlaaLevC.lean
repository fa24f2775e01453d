/- Contract of level.Pairs: which sign goes with which PDI, in a list of its own. -/
import Derived.Test.YtbhhebheclfdlaaLevB
import Derived.Test.YtbhhebheclfdlaaNest
namespace Go.Proofs.Ytbhhebheclfdlaa
set_option linter.unusedVariables false
set_option linter.unusedSimpArgs false
open Go.RowKit

theorem Try.info_int : (Try.prog.info? 3).map (fun i => (i.zero, i.size, i.bytes)) = some (some (.int .i64 0), 1, 8) := by kernel_rfl
def LPairsPost (ds : List Int) (n : Nat) (w : World) (e : Ending) (w' : World) : Prop :=
  e = .returned (.slice (some ⟨w.heap.size, 0, none⟩) n n) ∧ (pairsI ds).length = n ∧ OutAt .i64 3 w' w.heap.size (some ⟨w.heap.size, 0, none⟩) n (pairsI ds) ∧ Below w.heap.size w w'
theorem rep_zero (n i : Nat) (h : i < n) : ith (List.replicate n 0) i = 0 := by
  unfold ith; rw [List.getD_eq_getElem?_getD]; simp [h]

theorem lp_kept {k : IntKind} {e base cap B : Nat} {w2 w6 : World} {ob : Obj} {out : List Int} {row : Option Nat} (h : OutAt k e w2 base (some ⟨B, 0, none⟩) cap out) (hg : (w2.alloc ob).grownBy w6 row) (hr : ∀ j, row = some j → B < j) : OutAt k e w6 base (some ⟨B, 0, none⟩) cap out := by
  refine World.ownsRow.kept (World.ownsRow.alloc h ob) hg (.inr fun e => ?_)
  have := hr B e.symm
  omega
theorem lp_two {w w2 : World} {t GO oc n L : Nat} {opn : List Nat} {out : List Int} (hO : OutAt .i64 t w2 w.heap.size (some ⟨w.heap.size, 0, none⟩) n out)
    (hown : w2.ownsRow (w.heap.size + 1) t 1 (.slice (some ⟨GO, 0, none⟩) opn.length oc) opn.length (nats opn)) (hb : Below w.heap.size w w2) (hL : opn.length = L + 1) (hs : w.heap.size + 1 ≤ w2.heap.size) (i j : Nat) :
    ((w2.setCell ⟨w.heap.size, i, none⟩ (.int .i64 j)).setCell ⟨w.heap.size, j, none⟩ (.int .i64 i)).drew.ownsRow (w.heap.size + 1) t 1 (.slice (some ⟨GO, 0, none⟩) L oc) (opn.take L).length (nats (opn.take L)) ∧
    OutAt .i64 t ((w2.setCell ⟨w.heap.size, i, none⟩ (.int .i64 j)).setCell ⟨w.heap.size, j, none⟩ (.int .i64 i)).drew w.heap.size (some ⟨w.heap.size, 0, none⟩) n ((out.set i (j : Int)).set j (i : Int)) ∧
    w.heap.size + 1 ≤ ((w2.setCell ⟨w.heap.size, i, none⟩ (.int .i64 j)).setCell ⟨w.heap.size, j, none⟩ (.int .i64 i)).drew.heap.size ∧
    Below w.heap.size w ((w2.setCell ⟨w.heap.size, i, none⟩ (.int .i64 j)).setCell ⟨w.heap.size, j, none⟩ (.int .i64 i)).drew := by
  have h1 := ownsRow_setCell_below (ownsRow_setCell_below hown (show (⟨w.heap.size, i, none⟩ : Addr).block < w.heap.size + 1 from Nat.lt_succ_self _) (.int .i64 j)) (show (⟨w.heap.size, j, none⟩ : Addr).block < w.heap.size + 1 from Nat.lt_succ_self _) (.int .i64 i)
  refine ⟨?_, (hO.set i j).set j i, by simpa [World.setCell] using hs, ((hb.setCell (p := ⟨w.heap.size, i, none⟩) (Nat.le_refl _) _).setCell (p := ⟨w.heap.size, j, none⟩) (Nat.le_refl _) _).drew⟩
  have h2 := ownsRow_take (k := L) h1 (by omega) (by omega) (by unfold nats; simp)
  have e1 : (opn.take L).length = L := by rw [List.length_take]; omega
  have e2 : nats (opn.take L) = (nats opn).take (L * 1) := by unfold nats; rw [List.map_take, Nat.mul_one]
  rw [e1, e2]
  exact h2
set_option maxRecDepth 100000 in
set_option maxHeartbeats 400000 in
theorem LPairs_any (a : Option Addr) (ds : List Int) (n cap : Nat) (w : World) (hl : ds.length = n) (hd : Rd .i8 w a ds) (hn : n ≤ 2097152) :
    Calls Try.prog 65 #[.slice a n cap] w (LPairsPost ds n w) := by
  obtain ⟨i3, hi3, hz3, ha3, hb3⟩ := info_parts (Try.info_int)
  have HL := Lib.hid hl
  have HI : Hid (pairsI ds = pairsF ds n 0 [] (List.replicate n 0)) := by rw [← hl]; rfl
  clear hl
  go_enter Try.func65, Try.ntmps65
  have hmk := run_make_row (P := Try.prog) 32 3 i3 (.int .i64 0) Try.underlying32 hi3 hz3 ha3 rfl .i64 .i64 n (by rw [hb3]; omega) (by omega)
  go_wp2_with (fail)
  clear hmk
  have hrow0 := World.rowIs_made w (.int .i64 0) n 3
  have hO0 : OutAt .i64 3 (w.alloc (.cells (madeCells #[.int .i64 0] n) 3)) w.heap.size (some ⟨w.heap.size, 0, none⟩) n (List.replicate n 0) :=
    out_of_row (hrow0.congr fun i hi => by rw [rep_zero n i hi]) (by simp) (Nat.le_refl _) (by unfold maxLen; omega)
  have hb0 := (Below.refl w.heap.size w).alloc (Nat.le_refl _) (.cells (madeCells #[.int .i64 0] n) 3)
  clear hrow0
  go_loopw [4, 13] (fun ov c wx => ∃ (i m : Nat) (opn : List Nat) (out : List Int), i + m = n ∧ c = .int .i64 i ∧ wx.ownsRow (w.heap.size + 1) 3 1 ov opn.length (nats opn) ∧
      out.length = n ∧ OutAt .i64 3 wx w.heap.size (some ⟨w.heap.size, 0, none⟩) n out ∧ (∀ p ∈ opn, p < i) ∧ opn.length ≤ i ∧ w.heap.size + 1 ≤ wx.heap.size ∧ Below w.heap.size w wx ∧ pairsF ds m i opn out = pairsI ds) (fun _ c _ => n - (intOf c).toNat)
  case atStart => exact ⟨0, n, [], List.replicate n 0, by omega, rfl, World.ownsRow_nil _ _ _ _, by simp, hO0, by simp, by simp, by simp, hb0, HI.out.symm⟩
  case round =>
    obtain ⟨i, m, opn, out, him, rfl, hown, hol, hO, hlt', hoi, hsz, hbel, hF⟩ := hrel
    have HIM := Lib.hid him
    have HF := Lib.hid hF
    have HOL := Lib.hid hol
    have HLT := Lib.hid hlt'
    clear him hF hol hlt' hO0 hb0
    obtain ⟨oa, oc, hov, hoc, hocm⟩ := own_slice hown
    subst hov
    by_cases hi : i < n
    · obtain ⟨m, rfl⟩ : ∃ q, m = q + 1 := ⟨m - 1, by have := HIM.out; omega⟩
      obtain ⟨G, o, rfl, hGl, hGc⟩ := hd.at hbel i (by have := HL.out; omega)
      obtain ⟨G', hG', _, _, hXc, hXf, _, _⟩ := hO.at i (by have := HOL.out; omega)
      cases hG'
      have hst : ∀ d, lkn (ith ds i) = d → pairsF ds (m + 1) i opn out = if opensB d = true then pairsF ds m (i + 1) (opn ++ [i]) (out.set i (-1)) else if d = 10 then pairsF ds m (i + 1) [] (out.set i (-1))
          else if d = 22 ∧ 0 < opn.length then pairsF ds m (i + 1) (opn.take (opn.length - 1)) (((out.set i (-1)).set i (opn.getD (opn.length - 1) 0)).set (opn.getD (opn.length - 1) 0) i) else pairsF ds m (i + 1) opn (out.set i (-1)) := fun d h => by rw [pairsF, h]
      generalize ith ds i = y at hGc hst
      obtain ⟨d, hd'⟩ : ∃ d, lkn y = d := ⟨_, rfl⟩
      have hs := hst d hd'
      have HD : Hid (∀ W, Calls Try.prog 47 #[.int .i8 y] W fun e w' => e = .returned (.int .i8 d) ∧ W = w') := fun W => by rw [← hd']; exact lknown_any y W
      clear hst hd'
      go_upto_region 7 with (fail)
      obtain ⟨w2, hw2⟩ : ∃ w2, w2 = wr.setCell ⟨w.heap.size, i, none⟩ (.int .i64 (-1)) := ⟨_, rfl⟩
      rw [← hw2]
      have hO2 : OutAt .i64 3 w2 w.heap.size (some ⟨w.heap.size, 0, none⟩) n (out.set i (-1)) := by rw [hw2]; exact hO.set i (-1)
      have hb2 : Below w.heap.size w w2 := by rw [hw2]; exact hbel.setCell (p := ⟨w.heap.size, i, none⟩) (Nat.le_refl _) (.int .i64 (-1))
      have hown2 : w2.ownsRow (w.heap.size + 1) 3 1 (.slice oa opn.length oc) opn.length (nats opn) := by
        rw [hw2]; exact ownsRow_setCell_below hown (show (⟨w.heap.size, i, none⟩ : Addr).block < w.heap.size + 1 from Nat.lt_succ_self _) (.int .i64 (-1))
      have hsz2 : w.heap.size + 1 ≤ w2.heap.size := by rw [hw2]; simpa [World.setCell] using hsz
      have hGc2 : w2.cell? ⟨G, o + i, none⟩ = some (.int .i8 y) := by
        rw [hw2]
        exact (World.cell?_of_block (heap_setCell_other wr ⟨w.heap.size, i, none⟩ G (.int .i64 (-1)) (by show G ≠ w.heap.size; omega))).trans hGc
      clear hO hbel hown hsz hGc hXc hXf hw2
      go_upto_region 8 with (go_at_call 47; refine (HD.out _).mono ?_; rintro e w' ⟨rfl, hw'⟩; subst hw')
      have hlen2 : (out.set i (-1)).length = n := by rw [List.length_set]; exact HOL.out
      have HL2 := Lib.hid hlen2
      have HO2 := Lib.hid hO2
      have HB2 := Lib.hid hb2
      have HOW2 := Lib.hid hown2
      clear hlen2 hO2 hb2 hown2 hGc2
      by_cases ho : opensB d = true
      · have HN := Lib.hid (hs.trans (if_pos ho))
        clear hs
        go_wp2_with (first | (go_at_call 58; refine (lopens_any _ _).mono ?_; rintro e w' ⟨rfl, hw'⟩; subst hw') | (at_builtin; refine wpList_append_own _ rfl (.tmp 27) (.tmp 29) 32 rfl (w.heap.size + 1) 3 i3 (.int .i64 0) 1 8 Try.underlying32 hi3 hz3 ha3 hb3 rfl (by decide) (.slice oa opn.length oc) opn.length _ rfl (HOW2.out.alloc _) ⟨w2.heap.size, 0, none⟩ 1 1 [.int .i64 i] rfl rfl (cell_one_new _ _ _) (by simp [Value.oneCell']) (by unfold maxLen; omega) (by omega) (by simp; omega) ?_; intro v6 w6 hown6 hg6 _))
        have hO6 := lp_kept HO2.out hg6 (fun k hk => by have := (HOW2.out.lt k hk).1; omega)
        have hb6 := (HB2.out.alloc HB2.out.size _).grown hg6 (by simp; omega) (fun k hk => by have := (HOW2.out.lt k hk).1; omega)
        have hs6 : w.heap.size + 1 ≤ w6.heap.size := by have := hg6.size; rw [World.size_alloc] at this; omega
        clear hg6
        go_roundw
        case rel => exact ⟨i + 1, m, opn ++ [i], out.set i (-1), by have := HIM.out; omega, by go_num, by rw [nats_snoc, List.length_append, List.length_singleton]; exact hown6, HL2.out, hO6, fun p hp => by
          rw [List.mem_append, List.mem_singleton] at hp
          rcases hp with hp | hp
          · have := HLT.out p hp; omega
          · omega, by rw [List.length_append, List.length_singleton]; omega, hs6, hb6, by rw [← HF.out, HN.out]⟩
        case measure => simp [intOf]; omega
      · rw [if_neg ho] at hs
        have hof : opensB d = false := by simpa using ho
        clear ho
        by_cases h10 : d = 10
        · have HN := Lib.hid (hs.trans (if_pos h10))
          subst h10
          clear hs
          go_wp2_with (go_at_call 58; refine (lopens_any _ _).mono ?_; rintro e w' ⟨rfl, hw'⟩; subst hw')
          go_roundw
          case rel => exact ⟨i + 1, m, [], out.set i (-1), by have := HIM.out; omega, by go_num, World.ownsRow_nil _ _ _ _, HL2.out, HO2.out, by simp, by simp, hsz2, HB2.out, by rw [← HF.out, HN.out]⟩
          case measure => simp [intOf]; omega
        · rw [if_neg h10] at hs
          have c10 : (d == 10) = false := by simpa using h10
          clear h10
          by_cases h22 : d = 22 ∧ 0 < opn.length
          · have HN := Lib.hid (hs.trans (if_pos h22))
            obtain ⟨rfl, hlen⟩ := h22
            clear hs
            obtain ⟨L, hL⟩ : ∃ L, opn.length = L + 1 := ⟨opn.length - 1, by omega⟩
            obtain ⟨GO, hoa, hGO1, hGO2, hcells⟩ := own_cells HOW2.out hlen
            subst hoa
            obtain ⟨j, hj⟩ : ∃ j, opn.getD L 0 = j := ⟨_, rfl⟩
            have hoc2 := hcells L (by omega)
            have hnl : (nats opn)[L]? = some (.int .i64 (j : Int)) := by
              unfold nats
              rw [List.getElem?_map, List.getElem?_eq_getElem (by omega), ← hj, List.getD_eq_getElem?_getD, List.getElem?_eq_getElem (by omega)]
              rfl
            rw [hnl] at hoc2
            have hjm : j ∈ opn := by rw [← hj, List.getD_eq_getElem?_getD, List.getElem?_eq_getElem (by omega)]; exact List.getElem_mem _
            have hji : j < i := HLT.out j hjm
            obtain ⟨G1, hG1, _, _, hXi, hFi, _, _⟩ := HO2.out.at i (by have := HL2.out; omega)
            cases hG1
            obtain ⟨G1, hG1, _, _, hXj, hFj, _, _⟩ := HO2.out.at j (by have := HL2.out; omega)
            cases hG1
            rw [hL, Nat.add_sub_cancel, hj] at HN
            have HLL := Lib.hid hL
            clear hcells hnl hjm hj
            generalize ith (out.set i (-1)) i = vi at hXi
            generalize ith (out.set i (-1)) j = vj at hXj
            go_upto_region 13 with (go_at_call 58; refine (lopens_any _ _).mono ?_; rintro e w' ⟨rfl, hw'⟩; subst hw')
            go_cut [7] (fun t wx => t = .int .i64 L ∧ wx = w2)
            case first =>
              clear hXi hXj hFi hFj hoc2
              go_wp2_with (fail)
              all_goals (go_meet; exact ⟨by go_num, rfl⟩)
            case rest =>
              obtain ⟨rfl, hwx⟩ := hcut
              have hwx' := hwx.symm
              clear hwx
              subst hwx'
              have gL0 : (0 : Int) ≤ (L : Int) := by omega
              have gL1 : (L : Int) < (opn.length : Int) := by omega
              have gL2 : (L : Int) < (L : Int) + 1 := by omega
              have gj0 : (0 : Int) ≤ (j : Int) := by omega
              have gj1 : (j : Int) < (n : Int) := by omega
              have gi0 : (0 : Int) ≤ (i : Int) := by omega
              have gi1 : (i : Int) < (n : Int) := by omega
              have hne1 : GO ≠ w.heap.size := by omega
              have hne2 : w.heap.size ≠ GO := by omega
              have hij1 : i ≠ j := by omega
              have hij2 : j ≠ i := by omega
              have hLc : (L : Int) ≤ (oc : Int) := by omega
              clear hL
              go_upto_region 14 with (fail)
              go_region_held3 (fun w' => w'.cell? ⟨GO, L, none⟩ = some (.int .i64 j)) (go_keep) (fail)
              all_goals
                have HO6 := Lib.hid (lp_two HO2.out HOW2.out HB2.out HLL.out hsz2 i j)
                clear hXi hXj hFi hFj hoc2
                go_wp2_with (fail)
                go_roundw
                case rel => exact ⟨i + 1, m, opn.take L, ((out.set i (-1)).set i (j : Int)).set j (i : Int), by have := HIM.out; omega, by go_num, HO6.out.1, by rw [List.length_set, List.length_set]; exact HL2.out, HO6.out.2.1, fun p hp => by have := HLT.out p (List.mem_of_mem_take hp); omega, by rw [List.length_take]; omega, HO6.out.2.2.1, HO6.out.2.2.2, by rw [← HF.out, HN.out]⟩
                case measure => simp [intOf]; omega
          · have HN := Lib.hid (hs.trans (if_neg h22))
            have hkeep : ∀ p ∈ opn, p < i + 1 := fun p hp => by have := HLT.out p hp; omega
            have HKP := Lib.hid hkeep
            clear hs hkeep
            by_cases h2 : d = 22
            · have hl0 : ¬ 0 < opn.length := fun h => h22 ⟨h2, h⟩
              subst h2
              clear h22
              go_wp2_with (go_at_call 58; refine (lopens_any _ _).mono ?_; rintro e w' ⟨rfl, hw'⟩; subst hw')
              go_roundw
              case rel => exact ⟨i + 1, m, opn, out.set i (-1), by have := HIM.out; omega, by go_num, HOW2.out, HL2.out, HO2.out, HKP.out, by omega, hsz2, HB2.out, by rw [← HF.out, HN.out]⟩
              case measure => simp [intOf]; omega
            · have c22 : (d == 22) = false := by simpa using h2
              clear h22 h2
              go_wp2_with (go_at_call 58; refine (lopens_any _ _).mono ?_; rintro e w' ⟨rfl, hw'⟩; subst hw')
              go_roundw
              case rel => exact ⟨i + 1, m, opn, out.set i (-1), by have := HIM.out; omega, by go_num, HOW2.out, HL2.out, HO2.out, HKP.out, by omega, hsz2, HB2.out, by rw [← HF.out, HN.out]⟩
              case measure => simp [intOf]; omega
    · have hm0 : m = 0 := by have := HIM.out; omega
      have HZ : Hid (out = pairsI ds) := by subst hm0; exact HF
      go_wp2_with (fail)
      go_ret
      exact ⟨rfl, by rw [← HZ.out]; exact HOL.out, by rw [← HZ.out]; exact hO, hbel⟩
end Go.Proofs.Ytbhhebheclfdlaa
