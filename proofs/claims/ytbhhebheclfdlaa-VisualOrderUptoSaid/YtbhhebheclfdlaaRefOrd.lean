/- Contracts of the document's answer for the order of places and the way back: shuttleref10.Order, shuttleref10.Turned; and of shuttleref01.SameInts at one list. -/
import Derived.Test.YtbhhebheclfdlaaVisG
namespace Go.Proofs.Ytbhhebheclfdlaa
set_option linter.unusedVariables false
set_option linter.unusedSimpArgs false
open Go.RowKit

theorem oF_add (lv : Nat → Nat) (n : Nat) : ∀ a x b p, oF lv n x (a + b) p = oF lv n (x + a) b (oF lv n x a p)
  | 0, x, b, p => by rw [Nat.zero_add]; rfl
  | a + 1, x, b, p => by
    rw [show a + 1 + b = (a + b) + 1 by omega]
    show oF lv n (x + 1) (a + b) (revI lv n x p) = oF lv n (x + (a + 1)) b (oF lv n (x + 1) a (revI lv n x p))
    rw [oF_add lv n a (x + 1) b, show x + 1 + a = x + (a + 1) by omega]
theorem oF_high {lv : Nat → Nat} {n : Nat} : ∀ d x p, (∀ q, q < n → lv q < x) → oF lv n x d p = p
  | 0, _, _, _ => rfl
  | d + 1, x, p, h => by
    show oF lv n (x + 1) d (revI lv n x p) = p
    rw [rev_out (fun c => by have := h p c.1; omega), oF_high d (x + 1) p (fun q hq => by have := h q hq; omega)]
theorem topF_ge (ls : List Nat) : ∀ n q, q < n → lvF ls q ≤ topF ls n
  | 0, q, h => absurd h (by omega)
  | n + 1, q, h => by
    rw [topF]
    by_cases e : q = n
    · subst e; omega
    · have := topF_ge ls n q (by omega); omega
/-- turning at the levels above the greatest turns nothing -/
theorem order_all (ls : List Nat) (n : Nat) (hl : ls.length = n) : listOf n (ordG ls n 0 126) = orderI ls := by
  unfold orderI
  rw [hl]
  refine listOf_congr fun p hp => ?_
  unfold ordG
  have h6 := topF_le ls n
  rw [show (126 : Nat) = topF ls n + (126 - topF ls n) by omega, oF_add, oF_high (126 - topF ls n) (0 + 1 + topF ls n) _ (fun q hq => by have := topF_ge ls n q hq; omega)]
theorem listOf_snoc (i : Nat) (g : Nat → Int) : listOf (i + 1) g = listOf i g ++ [g i] := by
  unfold listOf; rw [List.range_succ, List.map_append]; rfl
def RefListPost (k : IntKind) (t n : Nat) (l : List Int) (w : World) (e : Ending) (w' : World) : Prop :=
  Below w.heap.size w w' ∧ ∃ a c, e = .returned (.slice a n c) ∧ OutAt k t w' w.heap.size a c l
set_option maxRecDepth 100000 in
set_option maxHeartbeats 2000000 in
theorem RefOrder_any (a : Option Addr) (ls : List Nat) (n c : Nat) (w : World) (hl : ls.length = n) (hd : Rd .u8 w a (ints ls)) (hn : n ≤ 2097152) :
    Calls Try.prog 17 #[.slice a n c] w (RefListPost .i64 3 n (orderI ls) w) := by
  obtain ⟨i3, hi3, hz3, ha3, hb3⟩ := info_parts (Try.info_int)
  have HL := Lib.hid hl
  have HOI := Lib.hid (order_all ls n hl)
  clear hl
  go_enter Try.func17, Try.ntmps17
  go_wp2_with (fail)
  go_loopw [3, 4] (fun u3 u wx => ∃ i : Nat, i ≤ n ∧ u = .int .i64 i ∧ wx.ownsRow w.heap.size 3 1 u3 i ((listOf i (fun p => (p : Int))).map (Value.int .i64)) ∧ Below w.heap.size w wx) (fun _ u _ => n - (intOf u).toNat)
  case atStart => exact ⟨0, by omega, rfl, World.ownsRow_nil _ _ _ _, Below.refl _ _⟩
  case round =>
    obtain ⟨i, hi, rfl, hO, hbel⟩ := hrel
    by_cases hlt : i < n
    · have hsz := hbel.size
      go_wp2_with (at_builtin; refine wpList_append_own _ rfl (.tmp 16) (.tmp 18) 32 rfl w.heap.size 3 i3 _ 1 8 Try.underlying32 hi3 hz3 ha3 hb3 rfl (by omega) _ i _ rfl (hO.alloc _) ⟨wr.heap.size, 0, none⟩ 1 1 [.int .i64 i] rfl rfl (World.news_of_block (cs := #[.int .i64 i]) (t := 3) (fr := (0, 0)) (heap_alloc_new _ _)) (by simp [Value.oneCell']) (by unfold maxLen; omega) (by omega) (by simp; omega) ?_; intro v7 w7 hown7 hg7 _)
      have hb7 := (hbel.alloc hsz (.cells #[.int .i64 i] 3)).grown hg7 (by simp; omega) (fun k hk => (hO.lt k hk).1)
      go_roundw
      case rel => exact ⟨i + 1, by omega, by go_num, by rw [listOf_snoc, List.map_append]; exact hown7, hb7⟩
      case measure => simp [intOf]; omega
    · have hie : n = i := by omega
      subst hie
      obtain ⟨ao, cap, rfl, hO1⟩ := OutAt.of hO (listOf_len _ _)
      have HO1 : Hid (OutAt .i64 3 wr w.heap.size ao cap (listOf n (ordG ls n 126 0))) := Lib.hid hO1
      have HB1 := Lib.hid hbel
      clear hO hO1 hbel hi hlt
      go_wp2_with (fail)
      go_loopw [5, 6, 7, 8, 9] (fun u5 _ _ _ _ wx => ∃ x d : Nat, u5 = .int .i64 x ∧ x + d = 126 ∧ OutAt .i64 3 wx w.heap.size ao cap (listOf n (ordG ls n x d)) ∧ Below w.heap.size w wx) (fun u5 _ _ _ _ _ => (intOf u5).toNat)
      case atStart => exact ⟨126, 0, rfl, by omega, HO1.out, HB1.out⟩
      case round =>
        obtain ⟨x, d, rfl, hxd, hO, hbel⟩ := hrel
        clear HO1 HB1
        cases x with
        | zero =>
          have hdg : d = 126 := by omega
          rw [hdg, HOI.out] at hO
          clear hxd hdg
          go_wp2_with (fail)
          go_ret
          exact ⟨hbel, _, _, rfl, hO⟩
        | succ x =>
          obtain ⟨X, hX⟩ : ∃ X, x + 1 = X := ⟨_, rfl⟩
          rw [hX] at hO ⊢
          have hX1 : 1 ≤ X := by omega
          have hX6 : X ≤ 126 := by omega
          have hO1 : OutAt .i64 3 wr w.heap.size ao cap (listOf n (midG ls n x d 0)) := by
            rw [listOf_congr (fun p _ => midG_zero ls n x d p), hX]; exact hO
          have HX := Lib.hid hX
          have HOA := Lib.hid hO1
          have HBA := Lib.hid hbel
          clear hO hO1 hbel hX
          go_wp2_with (fail)
          go_loopw [6, 7, 8, 9] (fun u8 u _ _ wx => ∃ i fr : Nat, u = .int .i64 i ∧ u8 = .int .i64 fr ∧ i ≤ n + 1 ∧ fr ≤ i ∧ (i = n + 1 → fr = n + 1) ∧ (fr = 0 ∨ lvF ls (fr - 1) < x + 1 ∨ fr = n + 1) ∧ (∀ q, fr ≤ q → q < i → q < n → x + 1 ≤ lvF ls q) ∧ OutAt .i64 3 wx w.heap.size ao cap (listOf n (midG ls n x d fr)) ∧ Below w.heap.size w wx) (fun _ u _ _ _ => n + 1 - (intOf u).toNat)
          case atStart => exact ⟨0, 0, rfl, rfl, by omega, by omega, fun h => by omega, .inl rfl, fun q _ h => by omega, HOA.out, HBA.out⟩
          case round =>
            obtain ⟨i, fr, rfl, rfl, hi, hfi, hend, hlf, hal, hO, hbel⟩ := hrel
            clear HOA HBA
            by_cases hin1 : i = n + 1
            · have hfe := hend hin1
              have hO2 : OutAt .i64 3 wr w.heap.size ao cap (listOf n (ordG ls n x (d + 1))) := by
                rw [← listOf_congr (fun p hp => midG_end ls n x d fr p hp (by omega))]; exact hO
              have HO2 := Lib.hid hO2
              have HB2 := Lib.hid hbel
              clear hO hO2 hbel hal hlf hend hfi hfe
              subst hin1
              have hX1 : (X : Int) - 1 = x := by have := HX.out; omega
              go_wp2_with (fail)
              go_roundw
              case rel => exact ⟨x, d + 1, by first | rfl | rw [hX1] | go_num, by omega, HO2.out, HB2.out⟩
              case measure => simp [intOf]; omega
            · have HO := Lib.hid hO
              have HBE := Lib.hid hbel
              have HAL := hal
              have HLF : fr = 0 ∨ lvF ls (fr - 1) < x + 1 := by
                rcases hlf with h | h | h
                · exact .inl h
                · exact .inr h
                · omega
              by_cases hlt : i < n
              · have hmid : midG ls n x d fr i = ((oF (lvF ls) n (x + 1 + 1) d i : Nat) : Int) := by unfold midG; rw [if_neg (by omega)]; rfl
                obtain ⟨k, hk⟩ : ∃ k, oF (lvF ls) n (x + 1 + 1) d i = k := ⟨_, rfl⟩
                have hkn : k < n := by rw [← hk]; exact oF_lt d (x + 1 + 1) i hlt
                have hkl : (x + 1 ≤ lvF ls k) ↔ x + 1 ≤ lvF ls i := by rw [← hk]; exact oF_lv d (x + 1 + 1) i (by omega)
                rw [hk] at hmid
                obtain ⟨G0, hGe, hG01, hG02, hXo, hFo, hc1, hc2⟩ := hO.at i (by rw [listOf_len]; exact hlt)
                subst hGe
                rw [listOf_ith _ _ _ hlt, hmid] at hXo
                obtain ⟨G, o, rfl, hG, hcl⟩ := hd.at hbel k (by rw [ints_len, HL.out]; exact hkn)
                rw [ith_ints] at hcl
                obtain ⟨lk, hlk⟩ : ∃ lk, ls.getD k 0 = lk := ⟨_, rfl⟩
                rw [hlk] at hcl
                obtain ⟨m6, hm6⟩ : ∃ m6, lvF ls k = m6 := ⟨_, rfl⟩
                have hmi : min (lk : Int) 126 = (m6 : Int) := by rw [← hm6]; unfold lvF; rw [hlk]; omega
                rw [hm6] at hkl
                have hm6l : m6 ≤ 126 := by omega
                have gi0 : (0 : Int) ≤ (i : Int) := by omega
                have gi1 : (i : Int) < (n : Int) := by omega
                have gk0 : (0 : Int) ≤ (k : Int) := by omega
                have gk1 : (k : Int) < (n : Int) := by omega
                clear hO hbel hmid hk hlk hm6 hal hlf
                by_cases hge : x + 1 ≤ m6
                · have hai := hkl.1 hge
                  have hgi : (X : Int) ≤ (m6 : Int) := by have := HX.out; omega
                  clear hkl
                  go_wp2_with (fail)
                  go_roundw
                  case rel => exact ⟨i + 1, fr, by go_num, rfl, by omega, by omega, fun h => by omega, HLF.imp id .inl, fun q h1 h2 h3 => by
                    rcases Nat.lt_or_ge q i with h | h
                    · exact HAL q h1 h h3
                    · obtain rfl : q = i := by omega
                      exact hai, HO.out, HBE.out⟩
                  case measure => simp [intOf]; omega
                · have HRR0 : lvF ls i < x + 1 := by
                    rcases Nat.lt_or_ge (lvF ls i) (x + 1) with h | h
                    · exact h
                    · exact absurd (hkl.2 h) hge
                  have HR : Hid (i = n ∨ lvF ls i < x + 1) := Lib.hid (.inr HRR0)
                  have HRR : lvF ls i < x + 1 ∨ i + 1 = n + 1 := .inl HRR0
                  have hgi : ¬ (X : Int) ≤ (m6 : Int) := by have := HX.out; omega
                  clear hkl hge hend
                  go_wp2_with (fail)
                  go_loopw [8, 9] (fun u8 u9 wx => ∃ (k : Nat) (z : Int), u8 = .int .i64 ((fr + k : Nat) : Int) ∧ u9 = .int .i64 z ∧ z + 1 + k = i ∧ 2 * k ≤ i - fr ∧ OutAt .i64 3 wx w.heap.size (some ⟨G0, 0, none⟩) cap (listOf n (swapG (midG ls n x d fr) fr (i - fr) k)) ∧ Below w.heap.size w wx) (fun u8 _ _ => i - (intOf u8).toNat)
                  case atStart => exact ⟨0, (i : Int) - 1, by first | rfl | go_num, by go_num, by omega, by omega, by rw [listOf_congr (fun p _ => swapG_zero _ fr (i - fr) p)]; exact HO.out, HBE.out⟩
                  case round =>
                    obtain ⟨k, z, rfl, rfl, hz, hk2, hO, hbel⟩ := hrel
                    obtain ⟨g, hg⟩ : ∃ g, midG ls n x d fr = g := ⟨_, rfl⟩
                    by_cases hlt2 : 2 * k + 1 < i - fr
                    · obtain ⟨b, rfl⟩ : ∃ b : Nat, z = b := ⟨z.toNat, by omega⟩
                      rw [hg] at hO
                      have hbe : b = fr + (i - fr - 1 - k) := by omega
                      obtain ⟨aa, haa⟩ : ∃ aa, fr + k = aa := ⟨_, rfl⟩
                      rw [haa]
                      obtain ⟨_, hGe, hG11, _, hXa, hFa, _, _⟩ := hO.at aa (by rw [listOf_len]; omega)
                      cases hGe
                      obtain ⟨_, hGe, _, _, hXb, hFb, _, _⟩ := hO.at b (by rw [listOf_len]; omega)
                      cases hGe
                      rw [listOf_ith _ _ _ (by omega)] at hXa hXb
                      have ea : swapG g fr (i - fr) k aa = g aa := by unfold swapG; rw [if_neg (by omega)]
                      have eb : swapG g fr (i - fr) k b = g b := by unfold swapG; rw [if_neg (by omega)]
                      rw [ea] at hXa
                      rw [eb] at hXb
                      obtain ⟨va, hva⟩ : ∃ va, g aa = va := ⟨_, rfl⟩
                      obtain ⟨vb, hvb⟩ : ∃ vb, g b = vb := ⟨_, rfl⟩
                      rw [hva] at hXa
                      rw [hvb] at hXb
                      have hnx : ((listOf n (swapG g fr (i - fr) k)).set aa vb).set b va = listOf n (swapG g fr (i - fr) (k + 1)) := by
                        rw [listOf_set _ _ _ _ (by omega), listOf_set _ _ _ _ (by omega)]
                        refine listOf_congr fun p hp => ?_
                        rw [← swapG_next g fr (i - fr) k p hlt2, ← hva, ← hvb, hbe, haa]
                      have hS1 := (hO.set aa vb).set b va
                      rw [hnx, ← hg] at hS1
                      have HS1 := Lib.hid hS1
                      have HBS := Lib.hid ((hbel.setCell (p := ⟨_, aa, none⟩) hG11 (.int .i64 vb)).setCell (p := ⟨_, b, none⟩) hG11 (.int .i64 va))
                      have gk0 : (0 : Int) ≤ (aa : Int) := by omega
                      have gk1 : (aa : Int) < (n : Int) := by omega
                      have gb0 : (0 : Int) ≤ (b : Int) := by omega
                      have gb1 : (b : Int) < (n : Int) := by omega
                      have gkb : (aa : Int) < (b : Int) := by omega
                      have hkb1 : aa ≠ b := by omega
                      have hkb2 : b ≠ aa := by omega
                      have HAA := Lib.hid haa
                      clear ea eb hva hvb hnx hS1 hO hbel hbe hg haa
                      go_wp2_with (fail)
                      go_region
                      all_goals go_wp2_with (fail)
                      go_roundw
                      case rel => exact ⟨k + 1, (b : Int) - 1, by rw [← Nat.add_assoc, HAA.out]; go_num, by go_num, by omega, by omega, HS1.out, by first | exact HBS.out | exact bl_drewN HBS.out 1⟩
                      case measure => have := HAA.out; simp [intOf]; omega
                    · have hzk : ¬ (((fr + k : Nat) : Int) < z) := by omega
                      clear hg
                      rw [listOf_congr (fun p hp => (swapG_end (midG ls n x d fr) fr (i - fr) k p (by omega) hk2).trans (midG_turn ls n x d fr i p hfi (by omega) hp HLF (fun q h1 h2 => HAL q h1 h2 (by omega)) HR.out))] at hO
                      have HO2 := Lib.hid hO
                      have HB2 := Lib.hid hbel
                      obtain ⟨aa, haa⟩ : ∃ aa, fr + k = aa := ⟨_, rfl⟩
                      rw [haa] at hzk ⊢
                      clear hO hbel haa
                      go_wp2_with (fail)
                      go_roundw
                      case rel => first | exact ⟨i + 1, i + 1, by go_num, by go_num, by omega, Nat.le_refl _, fun _ => by omega, .inr (by rw [Nat.add_sub_cancel]; exact HRR), fun q h1 h2 => by omega, HO2.out, HB2.out⟩ | exact ⟨i + 1, by go_num, i + 1, by go_num, by omega, Nat.le_refl _, fun _ => by omega, .inr (by rw [Nat.add_sub_cancel]; exact HRR), fun q h1 h2 => by omega, HO2.out, HB2.out⟩
                      case measure => first | (simp [intOf]; done) | (simp [intOf]; omega)
              · have hie : i = n := by omega
                have hni : ¬ (i : Int) < (n : Int) := by omega
                clear hO hbel hal hlf hend hlt
                obtain rfl : n = i := hie.symm
                clear hni hie
                go_wp2_with (fail)
                go_loopw [8, 9] (fun u8 u9 wx => ∃ (k : Nat) (z : Int), u8 = .int .i64 ((fr + k : Nat) : Int) ∧ u9 = .int .i64 z ∧ z + 1 + k = n ∧ 2 * k ≤ n - fr ∧ OutAt .i64 3 wx w.heap.size ao cap (listOf n (swapG (midG ls n x d fr) fr (n - fr) k)) ∧ Below w.heap.size w wx) (fun u8 _ _ => n - (intOf u8).toNat)
                case atStart => exact ⟨0, (n : Int) - 1, by first | rfl | go_num, by go_num, by omega, by omega, by rw [listOf_congr (fun p _ => swapG_zero _ fr (n - fr) p)]; exact HO.out, HBE.out⟩
                case round =>
                  obtain ⟨k, z, rfl, rfl, hz, hk2, hO, hbel⟩ := hrel
                  obtain ⟨g, hg⟩ : ∃ g, midG ls n x d fr = g := ⟨_, rfl⟩
                  by_cases hlt2 : 2 * k + 1 < n - fr
                  · obtain ⟨b, rfl⟩ : ∃ b : Nat, z = b := ⟨z.toNat, by omega⟩
                    rw [hg] at hO
                    have hbe : b = fr + (n - fr - 1 - k) := by omega
                    obtain ⟨aa, haa⟩ : ∃ aa, fr + k = aa := ⟨_, rfl⟩
                    rw [haa]
                    obtain ⟨_, hGe, hG11, _, hXa, hFa, _, _⟩ := hO.at aa (by rw [listOf_len]; omega)
                    cases hGe
                    obtain ⟨_, hGe, _, _, hXb, hFb, _, _⟩ := hO.at b (by rw [listOf_len]; omega)
                    cases hGe
                    rw [listOf_ith _ _ _ (by omega)] at hXa hXb
                    have ea : swapG g fr (n - fr) k aa = g aa := by unfold swapG; rw [if_neg (by omega)]
                    have eb : swapG g fr (n - fr) k b = g b := by unfold swapG; rw [if_neg (by omega)]
                    rw [ea] at hXa
                    rw [eb] at hXb
                    obtain ⟨va, hva⟩ : ∃ va, g aa = va := ⟨_, rfl⟩
                    obtain ⟨vb, hvb⟩ : ∃ vb, g b = vb := ⟨_, rfl⟩
                    rw [hva] at hXa
                    rw [hvb] at hXb
                    have hnx : ((listOf n (swapG g fr (n - fr) k)).set aa vb).set b va = listOf n (swapG g fr (n - fr) (k + 1)) := by
                      rw [listOf_set _ _ _ _ (by omega), listOf_set _ _ _ _ (by omega)]
                      refine listOf_congr fun p hp => ?_
                      rw [← swapG_next g fr (n - fr) k p hlt2, ← hva, ← hvb, hbe, haa]
                    have hS1 := (hO.set aa vb).set b va
                    rw [hnx, ← hg] at hS1
                    have HS1 := Lib.hid hS1
                    have HBS := Lib.hid ((hbel.setCell (p := ⟨_, aa, none⟩) hG11 (.int .i64 vb)).setCell (p := ⟨_, b, none⟩) hG11 (.int .i64 va))
                    have gk0 : (0 : Int) ≤ (aa : Int) := by omega
                    have gk1 : (aa : Int) < (n : Int) := by omega
                    have gb0 : (0 : Int) ≤ (b : Int) := by omega
                    have gb1 : (b : Int) < (n : Int) := by omega
                    have gkb : (aa : Int) < (b : Int) := by omega
                    have hkb1 : aa ≠ b := by omega
                    have hkb2 : b ≠ aa := by omega
                    have HAA := Lib.hid haa
                    clear ea eb hva hvb hnx hS1 hO hbel hbe hg haa
                    go_wp2_with (fail)
                    go_region
                    all_goals go_wp2_with (fail)
                    go_roundw
                    case rel => exact ⟨k + 1, (b : Int) - 1, by rw [← Nat.add_assoc, HAA.out]; go_num, by go_num, by omega, by omega, HS1.out, by first | exact HBS.out | exact bl_drewN HBS.out 1⟩
                    case measure => have := HAA.out; simp [intOf]; omega
                  · have hzk : ¬ (((fr + k : Nat) : Int) < z) := by omega
                    clear hg
                    rw [listOf_congr (fun p hp => (swapG_end (midG ls n x d fr) fr (n - fr) k p (by omega) hk2).trans (midG_turn ls n x d fr n p hfi (by omega) hp HLF (fun q h1 h2 => HAL q h1 h2 (by omega)) (.inl rfl)))] at hO
                    have HO2 := Lib.hid hO
                    have HB2 := Lib.hid hbel
                    obtain ⟨aa, haa⟩ : ∃ aa, fr + k = aa := ⟨_, rfl⟩
                    rw [haa] at hzk ⊢
                    clear hO hbel haa
                    go_wp2_with (fail)
                    go_roundw
                    case rel => first | exact ⟨n + 1, n + 1, by go_num, by go_num, by omega, Nat.le_refl _, fun _ => by omega, .inr (by rw [Nat.add_sub_cancel]; exact .inr rfl), fun q h1 h2 => by omega, HO2.out, HB2.out⟩ | exact ⟨n + 1, by go_num, n + 1, by go_num, by omega, Nat.le_refl _, fun _ => by omega, .inr (by rw [Nat.add_sub_cancel]; exact .inr rfl), fun q h1 h2 => by omega, HO2.out, HB2.out⟩
                    case measure => first | (simp [intOf]; done) | (simp [intOf]; omega)
def low1 (l : List Int) : List Int := l.map (fun x => x - 1)
theorem low1_ith (l : List Int) (i : Nat) (h : i < l.length) : ith (low1 l) i = ith l i - 1 := by
  unfold ith low1
  rw [List.getD_eq_getElem?_getD, List.getD_eq_getElem?_getD, List.getElem?_map, List.getElem?_eq_getElem h]
  rfl
theorem low1_set (l : List Int) (i : Nat) (v : Int) : (low1 l).set i (v - 1) = low1 (l.set i v) := by
  unfold low1; rw [List.map_set]
set_option maxRecDepth 100000 in
set_option maxHeartbeats 1000000 in
theorem RefTurned_any (a : Option Addr) (os : List Int) (n c : Nat) (w : World) (hl : os.length = n) (hd : Rd .i64 w a os) (hn : n ≤ 2097152) :
    Calls Try.prog 18 #[.slice a n c] w (OptPost .i64 3 (turnedI os) n w) := by
  obtain ⟨i3, hi3, hz3, ha3, hb3⟩ := info_parts (Try.info_int)
  have HL := Lib.hid hl
  have hT : turnedI os = (turnF os n n 0 (List.replicate n 0)).map low1 := by rw [← hl]; rfl
  rw [hT]
  obtain ⟨TF, hTF⟩ : ∃ TF, turnF os n n 0 (List.replicate n 0) = TF := ⟨_, rfl⟩
  have HTF := Lib.hid hTF
  rw [hTF]
  have hmk := run_make_row (P := Try.prog) 32 3 i3 (.int .i64 0) Try.underlying32 hi3 hz3 ha3 rfl .i64 .i64 n (by rw [hb3]; omega) (by omega)
  clear hl hT hTF
  go_enter Try.func18, Try.ntmps18
  go_wp2_with (fail)
  clear hmk
  have hO0 : OutAt .i64 3 (w.alloc (.cells (madeCells #[.int .i64 0] n) 3)) w.heap.size (some ⟨w.heap.size, 0, none⟩) n (listOf n (fun p => if p < 0 then -1 else 0)) :=
    out_of_row ((World.rowIs_made w (.int .i64 0) n 3).congr fun i hi => by rw [listOf_ith _ _ _ hi, if_neg (Nat.not_lt_zero _)]) (listOf_len _ _) (Nat.le_refl _) (by unfold maxLen; omega)
  have hb0 := (Below.refl w.heap.size w).alloc (Nat.le_refl _) (.cells (madeCells #[.int .i64 0] n) 3)
  go_loopw [4] (fun u wx => ∃ i : Nat, i ≤ n ∧ u = .int .i64 i ∧ OutAt .i64 3 wx w.heap.size (some ⟨w.heap.size, 0, none⟩) n (listOf n (fun p => if p < i then -1 else 0)) ∧ Below w.heap.size w wx) (fun u _ => n - (intOf u).toNat)
  case atStart => exact ⟨0, by omega, rfl, hO0, hb0⟩
  case round =>
    obtain ⟨i, hi, rfl, hO, hbel⟩ := hrel
    clear hO0 hb0
    by_cases hlt : i < n
    · obtain ⟨B', hB', _, _, hXo, hFo, _, _⟩ := hO.at i (by rw [listOf_len]; exact hlt)
      cases hB'
      generalize ith (listOf n (fun p => if p < i then -1 else 0)) i = vo at hXo
      have hS := hO.set i (-1)
      have hnx : (listOf n (fun p => if p < i then -1 else 0)).set i (-1) = listOf n (fun p => if p < i + 1 then -1 else 0) := by
        rw [listOf_set _ _ _ _ hlt]
        refine listOf_congr fun p hp => ?_
        by_cases e : p = i
        · rw [if_pos e, if_pos (by omega)]
        · rw [if_neg e]
          by_cases e2 : p < i
          · rw [if_pos e2, if_pos (by omega)]
          · rw [if_neg e2, if_neg (by omega)]
      rw [hnx] at hS
      have HS := Lib.hid hS
      have HB2 := Lib.hid (hbel.setCell (p := ⟨w.heap.size, i, none⟩) (Nat.le_refl _) (.int .i64 (-1)))
      have gi0 : (0 : Int) ≤ (i : Int) := by omega
      have gi1 : (i : Int) < (n : Int) := by omega
      clear hO hbel hS hnx
      go_wp2_with (fail)
      go_roundw
      case rel => exact ⟨i + 1, by omega, by go_num, HS.out, HB2.out⟩
      case measure => simp [intOf]; omega
    · have hie : n = i := by omega
      subst hie
      have hOn : OutAt .i64 3 wr w.heap.size (some ⟨w.heap.size, 0, none⟩) n (low1 (List.replicate n 0)) := by
        rw [show low1 (List.replicate n 0) = listOf n (fun p => if p < n then -1 else 0) from by
          refine list_ext (by unfold low1; simp [listOf_len]) fun p hp => ?_
          have hp' : p < n := by simpa [low1] using hp
          rw [low1_ith _ _ (by simpa using hp'), listOf_ith _ _ _ hp', if_pos hp', rep_zero n p hp']
          rfl]
        exact hO
      have HOn := Lib.hid hOn
      have HBn := Lib.hid hbel
      clear hO hOn hbel hi hlt
      go_wp2_with (fail)
      go_loopw [5, 6] (fun u _ wx => ∃ (i m : Nat) (out : List Int), i + m = n ∧ u = .int .i64 i ∧ out.length = n ∧ OutAt .i64 3 wx w.heap.size (some ⟨w.heap.size, 0, none⟩) n (low1 out) ∧ Below w.heap.size w wx ∧ turnF os n m i out = TF ∧ (∀ x ∈ out, 0 ≤ x ∧ x ≤ n)) (fun u _ _ => n - (intOf u).toNat)
      case atStart => exact ⟨0, n, List.replicate n 0, by omega, rfl, by simp, HOn.out, HBn.out, HTF.out, fun x hx => by have := List.eq_of_mem_replicate hx; omega⟩
      case round =>
        obtain ⟨i, m, out, him, rfl, hol, hO, hbel, hF, hbd⟩ := hrel
        clear HOn HBn
        have HOL := Lib.hid hol
        have HBD := Lib.hid hbd
        have hll : (low1 out).length = n := by unfold low1; rw [List.length_map]; exact hol
        cases m with
        | zero =>
          have hie : i = n := by omega
          rw [turnF] at hF
          have HF := Lib.hid hF
          have HLL := Lib.hid hll
          clear hF hol him hbd hll
          subst hie
          go_wp2_with (fail)
          go_ret
          refine ⟨hbel, ?_⟩
          rw [← HF.out]
          exact ⟨HLL.out, _, _, rfl, hO⟩
        | succ m =>
          have hlt : i < n := by omega
          obtain ⟨Ga, oa, rfl, hGa, hac⟩ := hd.at hbel i (by rw [HL.out]; exact hlt)
          obtain ⟨x, hx⟩ : ∃ x, ith os i = x := ⟨_, rfl⟩
          rw [hx] at hac
          rw [turnF, hx] at hF
          by_cases h1 : x < 0
          · rw [if_pos (.inl h1)] at hF
            have HF := Lib.hid hF
            have HBL := Lib.hid hbel
            clear hF hol hbd hO hx hbel hll
            go_wp2_with (fail)
            go_ret
            rw [← HF.out]
            exact ⟨HBL.out, rfl⟩
          · by_cases h2 : (n : Int) ≤ x
            · rw [if_pos (.inr h2)] at hF
              have HF := Lib.hid hF
              have HBL := Lib.hid hbel
              clear hF hol hbd hO hx hbel hll
              go_wp2_with (fail)
              go_ret
              rw [← HF.out]
              exact ⟨HBL.out, rfl⟩
            · rw [if_neg (by omega)] at hF
              obtain ⟨p, rfl⟩ : ∃ p : Nat, x = p := ⟨x.toNat, by omega⟩
              rw [Int.toNat_natCast] at hF
              obtain ⟨B', hB', _, _, hXo, hFo, _, _⟩ := hO.at p (by rw [hll]; omega)
              cases hB'
              rw [low1_ith _ _ (by omega)] at hXo
              obtain ⟨y, hy⟩ : ∃ y, ith out p = y := ⟨_, rfl⟩
              have hyb := hbd y (by rw [← hy]; unfold ith; rw [List.getD_eq_getElem?_getD, List.getElem?_eq_getElem (by omega)]; exact List.getElem_mem _)
              rw [hy] at hXo hF
              have gp0 : (0 : Int) ≤ (p : Int) := by omega
              have gp1 : (p : Int) < (n : Int) := by omega
              have gi0 : (0 : Int) ≤ (i : Int) := by omega
              have gi1 : (i : Int) < (n : Int) := by omega
              obtain ⟨y1, hy1⟩ : ∃ y1, y - 1 = y1 := ⟨_, rfl⟩
              rw [hy1] at hXo
              by_cases h3 : y = 0
              · rw [if_neg (fun h => h h3)] at hF
                have hS := hO.set p (i : Int)
                rw [show (i : Int) = ((i : Int) + 1) - 1 by omega, low1_set] at hS
                have hyn : ¬ (0 : Int) ≤ y1 := by omega
                have HF := Lib.hid hF
                have HS := Lib.hid hS
                have HB2 := Lib.hid (hbel.setCell (p := ⟨w.heap.size, p, none⟩) (Nat.le_refl _) (.int .i64 (i : Int)))
                have hbd2 : ∀ z ∈ out.set p ((i : Int) + 1), 0 ≤ z ∧ z ≤ n := fun z hz => by
                  rcases List.mem_or_eq_of_mem_set hz with h | rfl
                  · exact HBD.out z h
                  · omega
                have HBD2 := Lib.hid hbd2
                clear hF hS hol hbd hO hx hy hy1 hbel hbd2 h1 h2 hyb hll
                go_wp2_with (fail)
                go_roundw
                case rel => exact ⟨i + 1, m, _, by omega, by go_num, by rw [List.length_set]; exact HOL.out, by have := HS.out; rwa [Int.add_sub_cancel] at this, HB2.out, HF.out, HBD2.out⟩
                case measure => simp [intOf]; omega
              · rw [if_pos h3] at hF
                have hyn : (0 : Int) ≤ y1 := by omega
                have HF := Lib.hid hF
                have HBL := Lib.hid hbel
                clear hF hol hbd hO hx hy hy1 h1 h2 h3 hbel hyb hll
                go_wp2_with (fail)
                go_ret
                rw [← HF.out]
                exact ⟨HBL.out, rfl⟩
end Go.Proofs.Ytbhhebheclfdlaa
