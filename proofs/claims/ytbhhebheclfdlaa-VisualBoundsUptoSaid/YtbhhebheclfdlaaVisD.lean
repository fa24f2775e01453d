/- Contracts of class.Mirror, visual.Mirrored, visual.Turned. -/
import Derived.Test.YtbhhebheclfdlaaSpec10
import Derived.Test.YtbhhebheclfdlaaVisC
namespace Go.Proofs.Ytbhhebheclfdlaa

def mirrorI (r : Int) : Int :=
  if (pairI r).2.2 = true then (pairI r).1
  else if r = 60 ∨ r = 65308 then r + 2 else if r = 62 ∨ r = 65310 then r - 2
  else if r = 171 then 187 else if r = 187 then 171
  else if r = 8249 ∨ r = 8250 then 16499 - r else if r = 8804 ∨ r = 8805 then 17609 - r else r
def mirroredI (r : Int) (x : Nat) : Int := if x % 2 = 1 then mirrorI r else r
/-- where each place is seen, one more; none: the numbers are no order -/
def turnF (os : List Int) (n : Nat) : Nat → Nat → List Int → Option (List Int)
  | 0, _, out => some out
  | m + 1, i, out => if ith os i < 0 ∨ (n : Int) ≤ ith os i then none else if ith out (ith os i).toNat ≠ 0 then none else turnF os n m (i + 1) (out.set (ith os i).toNat ((i : Int) + 1))
def turnedI (os : List Int) : Option (List Int) := (turnF os os.length os.length 0 (List.replicate os.length 0)).map (fun l => l.map (fun x => x - 1))
/-- a row's levels: from its end on, what hangs has the base -/
def hangsF (d : Int) (h : Bool) : Bool := if d = 11 ∨ d = 10 then true else if d ≠ 12 ∧ leftB d = false ∧ (d < 19 ∨ 22 < d) then false else h
def hangF (cs : List Int) (base fr : Nat) : Nat → Bool → List Nat → List Nat
  | 0, _, out => out
  | i + 1, h, out =>
    hangF cs base fr i (hangsF (dirI (ith cs (fr + i))) h) (if hangsF (dirI (ith cs (fr + i))) h = true then (out.set i (min (out.getD i 0) 126)).set i base else out.set i (min (out.getD i 0) 126))
def clampN (n : Nat) (x : Int) : Nat := min x.toNat n
def rowI (cs : List Int) (ls : List Nat) (base : Nat) (fr tt : Int) : Option (List Nat) :=
  let n := min cs.length ls.length
  if clampN n tt < clampN n fr then none
  else some (hangF cs (min base 126) (clampN n fr) (clampN n tt - clampN n fr) true ((ls.drop (clampN n fr)).take (clampN n tt - clampN n fr)))
end Go.Proofs.Ytbhhebheclfdlaa

/-! Contracts of class.Mirror, visual.Mirrored, visual.Turned. -/
namespace Go.Proofs.Ytbhhebheclfdlaa
set_option linter.unusedVariables false
set_option linter.unusedSimpArgs false
open Go.RowKit

set_option maxRecDepth 100000 in
set_option maxHeartbeats 1000000 in
theorem Mirror_any (r : Int) (w : World) : Calls Try.prog 28 #[.int .i32 r] w fun e w' => e = .returned (.int .i32 (mirrorI r)) ∧ w = w' := by
  have hM : mirrorI r = if (pairI r).2.2 = true then (pairI r).1
      else if r = 60 ∨ r = 65308 then r + 2 else if r = 62 ∨ r = 65310 then r - 2
      else if r = 171 then 187 else if r = 187 then 171
      else if r = 8249 ∨ r = 8250 then 16499 - r else if r = 8804 ∨ r = 8805 then 17609 - r else r := rfl
  have HP := Lib.hid (Pair_any r w)
  unfold PairPost at HP
  obtain ⟨pr, hpr⟩ : ∃ pr, pairI r = pr := ⟨_, rfl⟩
  rw [hpr] at hM HP
  obtain ⟨o, op, ok⟩ := pr
  simp only at hM HP
  clear hpr
  have HM := Lib.hid hM
  clear hM
  go_enter Try.func28, Try.ntmps28
  cases ok with
  | true =>
    go_wp2_with (go_at_call 42; refine HP.out.mono ?_; rintro e w' ⟨rfl, hw'⟩; subst hw')
    go_ret
    exact ⟨ret_i (by rw [HM.out, if_pos (by first | rfl | trivial)]), rfl⟩
  | false =>
    have e := HM.out
    rw [if_neg (by decide)] at e
    have HE := Lib.hid e
    clear e HM
    by_cases h1 : r = 60 ∨ r = 65308
    · have e := HE.out.trans (if_pos h1)
      have HF := Lib.hid e
      clear e
      rcases h1 with rfl | rfl
      all_goals
        go_wp2_with (go_at_call 42; refine HP.out.mono ?_; rintro e w' ⟨rfl, hw'⟩; subst hw')
        go_ret
        exact ⟨ret_i (by rw [HF.out]; rfl), rfl⟩
    · have e := HE.out.trans (if_neg h1)
      by_cases h2 : r = 62 ∨ r = 65310
      · have HF := Lib.hid (e.trans (if_pos h2))
        clear e
        rcases h2 with rfl | rfl
        all_goals
          go_wp2_with (go_at_call 42; refine HP.out.mono ?_; rintro e w' ⟨rfl, hw'⟩; subst hw')
          go_ret
          exact ⟨ret_i (by rw [HF.out]; rfl), rfl⟩
      · replace e := e.trans (if_neg h2)
        by_cases h3 : r = 171
        · have HF := Lib.hid (e.trans (if_pos h3))
          clear e
          subst h3
          go_wp2_with (go_at_call 42; refine HP.out.mono ?_; rintro e w' ⟨rfl, hw'⟩; subst hw')
          go_ret
          exact ⟨ret_i (by rw [HF.out]), rfl⟩
        · replace e := e.trans (if_neg h3)
          by_cases h4 : r = 187
          · have HF := Lib.hid (e.trans (if_pos h4))
            clear e
            subst h4
            go_wp2_with (go_at_call 42; refine HP.out.mono ?_; rintro e w' ⟨rfl, hw'⟩; subst hw')
            go_ret
            exact ⟨ret_i (by rw [HF.out]), rfl⟩
          · replace e := e.trans (if_neg h4)
            by_cases h5 : r = 8249 ∨ r = 8250
            · have HF := Lib.hid (e.trans (if_pos h5))
              clear e
              rcases h5 with rfl | rfl
              all_goals
                go_wp2_with (go_at_call 42; refine HP.out.mono ?_; rintro e w' ⟨rfl, hw'⟩; subst hw')
                go_ret
                exact ⟨ret_i (by rw [HF.out]; rfl), rfl⟩
            · replace e := e.trans (if_neg h5)
              by_cases h6 : r = 8804 ∨ r = 8805
              · have HF := Lib.hid (e.trans (if_pos h6))
                clear e
                rcases h6 with rfl | rfl
                all_goals
                  go_wp2_with (go_at_call 42; refine HP.out.mono ?_; rintro e w' ⟨rfl, hw'⟩; subst hw')
                  go_ret
                  exact ⟨ret_i (by rw [HF.out]; rfl), rfl⟩
              · have HF := Lib.hid (e.trans (if_neg h6))
                have n1 : (r == 60) = false := by rw [beq_eq_false_iff_ne]; omega
                have n2 : (r == 65308) = false := by rw [beq_eq_false_iff_ne]; omega
                have n3 : (r == 62) = false := by rw [beq_eq_false_iff_ne]; omega
                have n4 : (r == 65310) = false := by rw [beq_eq_false_iff_ne]; omega
                have n5 : (r == 171) = false := by rw [beq_eq_false_iff_ne]; omega
                have n6 : (r == 187) = false := by rw [beq_eq_false_iff_ne]; omega
                have n7 : (r == 8249) = false := by rw [beq_eq_false_iff_ne]; omega
                have n8 : (r == 8250) = false := by rw [beq_eq_false_iff_ne]; omega
                have n9 : (r == 8804) = false := by rw [beq_eq_false_iff_ne]; omega
                have n10 : (r == 8805) = false := by rw [beq_eq_false_iff_ne]; omega
                clear e h1 h2 h3 h4 h5 h6 HE
                go_wp2_with (go_at_call 42; refine HP.out.mono ?_; rintro e w' ⟨rfl, hw'⟩; subst hw')
                go_ret
                exact ⟨ret_i (by rw [HF.out]), rfl⟩
set_option maxHeartbeats 400000 in
theorem Mirrored_any (r : Int) (x : Nat) (w : World) (hx : x ≤ 255) : Calls Try.prog 22 #[.int .i32 r, .int .u8 x] w fun e w' => e = .returned (.int .i32 (mirroredI r x)) ∧ w = w' := by
  have hM : mirroredI r x = if x % 2 = 1 then mirrorI r else r := rfl
  have HM := Lib.hid hM
  have HI := Lib.hid (Mirror_any r w)
  clear hM
  go_enter Try.func22, Try.ntmps22
  by_cases h : x % 2 = 1
  · have hi : (x : Int) % 2 = 1 := by omega
    have HF := Lib.hid (HM.out.trans (if_pos h))
    clear h
    go_wp2_with (go_at_call 28; refine HI.out.mono ?_; rintro e w' ⟨rfl, hw'⟩; subst hw')
    go_ret
    exact ⟨ret_i (by rw [HF.out]), rfl⟩
  · have hi : (x : Int) % 2 = 0 := by omega
    have HF := Lib.hid (HM.out.trans (if_neg h))
    clear h
    go_wp2_with (fail)
    go_ret
    exact ⟨ret_i (by rw [HF.out]), rfl⟩
def OptPost (k : IntKind) (e : Nat) (R : Option (List Int)) (n : Nat) (w : World) (e' : Ending) (w' : World) : Prop :=
  Below w.heap.size w w' ∧ match R with
    | none => e' = .returned (.slice none 0 0)
    | some l => l.length = n ∧ ∃ a c, e' = .returned (.slice a n c) ∧ OutAt k e w' w.heap.size a c l
set_option maxRecDepth 100000 in
set_option maxHeartbeats 1000000 in
theorem Turned_any (a : Option Addr) (os : List Int) (n c : Nat) (w : World) (hl : os.length = n) (hd : Rd .i64 w a os) (hn : n ≤ 2097152) :
    Calls Try.prog 20 #[.slice a n c] w (OptPost .i64 3 (turnedI os) n w) := by
  obtain ⟨i3, hi3, hz3, ha3, hb3⟩ := info_parts (Try.info_int)
  have HL := Lib.hid hl
  have hT : turnedI os = (turnF os n n 0 (List.replicate n 0)).map (fun l => l.map (fun x => x - 1)) := by rw [← hl]; rfl
  rw [hT]
  obtain ⟨TF, hTF⟩ : ∃ TF, turnF os n n 0 (List.replicate n 0) = TF := ⟨_, rfl⟩
  have HTF := Lib.hid hTF
  rw [hTF]
  have hmk := run_make_row (P := Try.prog) 32 3 i3 (.int .i64 0) Try.underlying32 hi3 hz3 ha3 rfl .i64 .i64 n (by rw [hb3]; omega) (by omega)
  clear hl hT hTF
  go_enter Try.func20, Try.ntmps20
  go_wp2_with (fail)
  clear hmk
  have hO0 : OutAt .i64 3 (w.alloc (.cells (madeCells #[.int .i64 0] n) 3)) w.heap.size (some ⟨w.heap.size, 0, none⟩) n (List.replicate n 0) :=
    out_of_row ((World.rowIs_made w (.int .i64 0) n 3).congr fun i hi => by rw [rep_zero n i hi]) (by simp) (Nat.le_refl _) (by unfold maxLen; omega)
  have hb0 := (Below.refl w.heap.size w).alloc (Nat.le_refl _) (.cells (madeCells #[.int .i64 0] n) 3)
  go_loopw [4, 5, 12] (fun _ _ u wx => ∃ (i m : Nat) (out : List Int), i + m = n ∧ u = .int .i64 i ∧ out.length = n ∧ OutAt .i64 3 wx w.heap.size (some ⟨w.heap.size, 0, none⟩) n out ∧ Below w.heap.size w wx ∧ turnF os n m i out = TF ∧ (∀ x ∈ out, 0 ≤ x ∧ x ≤ n)) (fun _ _ u _ => n - (intOf u).toNat)
  case atStart => exact ⟨0, n, List.replicate n 0, by omega, rfl, by simp, hO0, hb0, HTF.out, fun x hx => by have := List.eq_of_mem_replicate hx; omega⟩
  case round =>
    obtain ⟨i, m, out, him, rfl, hol, hO, hbel, hF, hbd⟩ := hrel
    clear hO0 hb0
    have HOL := Lib.hid hol
    have HBD := Lib.hid hbd
    cases m with
    | zero =>
      have hie : i = n := by omega
      rw [turnF] at hF
      have HF := Lib.hid hF
      clear hF hol him hbd
      subst hie
      go_wp2_with (fail)
      go_loopw [6, 40] (fun _ u wx => ∃ (j : Nat) (o2 : List Int), j ≤ i ∧ u = .int .i64 j ∧ o2 = (out.take j).map (fun x => x - 1) ++ out.drop j ∧ OutAt .i64 3 wx w.heap.size (some ⟨w.heap.size, 0, none⟩) i o2 ∧ Below w.heap.size w wx) (fun _ u _ => i - (intOf u).toNat)
      case atStart => exact ⟨0, out, by omega, rfl, by simp, hO, hbel⟩
      case round =>
        obtain ⟨j, o2, hj, rfl, ho2, hO2, hb2⟩ := hrel
        clear hO hbel
        have hl2 : o2.length = i := by rw [ho2]; have := HOL.out; simp; omega
        by_cases hlt : j < i
        · obtain ⟨B', hB', _, _, hXo, hFo, _, _⟩ := hO2.at j (by rw [hl2]; exact hlt)
          cases hB'
          obtain ⟨x, hx⟩ : ∃ x, ith o2 j = x := ⟨_, rfl⟩
          have hxo : ith out j = x := by
            rw [← hx, ho2]
            unfold ith
            rw [List.getD_eq_getElem?_getD, List.getD_eq_getElem?_getD, List.getElem?_append_right (by simp; omega)]
            have : j - ((out.take j).map (fun x => x - 1)).length = 0 := by have := HOL.out; simp; omega
            rw [this, List.getElem?_drop]
            rfl
          have hxb := HBD.out x (by rw [← hxo]; unfold ith; rw [List.getD_eq_getElem?_getD, List.getElem?_eq_getElem (by have := HOL.out; omega)]; exact List.getElem_mem _)
          rw [hx] at hXo
          have hS := hO2.set j (x - 1)
          have hnx : o2.set j (x - 1) = (out.take (j + 1)).map (fun x => x - 1) ++ out.drop (j + 1) := by
            have hol := HOL.out
            have e1 : out.drop j = x :: out.drop (j + 1) := by
              rw [List.drop_eq_getElem_cons (by omega), ← hxo, ith, List.getD_eq_getElem?_getD, List.getElem?_eq_getElem (by omega)]; rfl
            have e2 : out.take (j + 1) = out.take j ++ [x] := by
              rw [List.take_succ_eq_append_getElem (by omega), ← hxo, ith, List.getD_eq_getElem?_getD, List.getElem?_eq_getElem (by omega)]; rfl
            have e3 : ((out.take j).map (fun x => x - 1)).length = j := by simp; omega
            rw [ho2, e1, e2, List.map_append, List.append_assoc, List.set_append_right _ _ (by omega), e3, Nat.sub_self]
            rfl
          rw [hnx] at hS
          have HS := Lib.hid hS
          have HB2 := Lib.hid (hb2.setCell (p := ⟨w.heap.size, j, none⟩) (Nat.le_refl _) (.int .i64 (x - 1)))
          have gj0 : (0 : Int) ≤ (j : Int) := by omega
          have gj1 : (j : Int) < (i : Int) := by omega
          clear hx hxo ho2 hl2 hO2 hb2 hS hnx
          go_wp2_with (fail)
          go_roundw
          case rel => exact ⟨j + 1, _, by omega, by go_num, rfl, HS.out, HB2.out⟩
          case measure => simp [intOf]; omega
        · have hje : j = i := by omega
          have hfin : o2 = out.map (fun x => x - 1) := by rw [ho2, hje, ← HOL.out, List.take_length, List.drop_length, List.append_nil]
          have HFI := Lib.hid hfin
          have HO2 := Lib.hid hO2
          have HB2 := Lib.hid hb2
          subst hje
          clear ho2 hfin hl2 hO2 hb2 hj hlt
          go_wp2_with (fail)
          go_ret
          refine ⟨HB2.out, ?_⟩
          rw [← HF.out]
          have ho2 := HO2.out
          rw [HFI.out] at ho2
          exact ⟨by rw [List.length_map, HOL.out], _, _, rfl, ho2⟩
    | succ m =>
      have hlt : i < n := by omega
      obtain ⟨Ga, oa, rfl, hGa, hac⟩ := hd.at hbel i (by rw [HL.out]; exact hlt)
      obtain ⟨x, hx⟩ : ∃ x, ith os i = x := ⟨_, rfl⟩
      rw [hx] at hac
      rw [turnF, hx] at hF
      by_cases h1 : x < 0
      · rw [if_pos (.inl h1)] at hF
        have HF := Lib.hid hF
        have HBL := Lib.hid hbel
        clear hF hol hbd hO hx hbel
        go_wp2_with (fail)
        go_ret
        rw [← HF.out]
        exact ⟨HBL.out, rfl⟩
      · by_cases h2 : (n : Int) ≤ x
        · rw [if_pos (.inr h2)] at hF
          have HF := Lib.hid hF
          have HBL := Lib.hid hbel
          clear hF hol hbd hO hx hbel
          go_wp2_with (fail)
          go_ret
          rw [← HF.out]
          exact ⟨HBL.out, rfl⟩
        · rw [if_neg (by omega)] at hF
          obtain ⟨p, rfl⟩ : ∃ p : Nat, x = p := ⟨x.toNat, by omega⟩
          rw [Int.toNat_natCast] at hF
          obtain ⟨B', hB', _, _, hXo, hFo, _, _⟩ := hO.at p (by rw [hol]; omega)
          cases hB'
          obtain ⟨y, hy⟩ : ∃ y, ith out p = y := ⟨_, rfl⟩
          rw [hy] at hXo hF
          have gp0 : (0 : Int) ≤ (p : Int) := by omega
          have gp1 : (p : Int) < (n : Int) := by omega
          have gi0 : (0 : Int) ≤ (i : Int) := by omega
          have gi1 : (i : Int) < (n : Int) := by omega
          by_cases h3 : y = 0
          · rw [if_neg (fun h => h h3)] at hF
            subst h3
            have HF := Lib.hid hF
            have HS := Lib.hid (hO.set p ((i : Int) + 1))
            have HB2 := Lib.hid (hbel.setCell (p := ⟨w.heap.size, p, none⟩) (Nat.le_refl _) (.int .i64 ((i : Int) + 1)))
            have hbd2 : ∀ z ∈ out.set p ((i : Int) + 1), 0 ≤ z ∧ z ≤ n := fun z hz => by
              rcases List.mem_or_eq_of_mem_set hz with h | rfl
              · exact HBD.out z h
              · omega
            have HBD2 := Lib.hid hbd2
            clear hF hol hbd hO hx hy hbel hbd2 h1 h2
            go_wp2_with (fail)
            go_roundw
            case rel => exact ⟨i + 1, m, _, by omega, by go_num, by rw [List.length_set]; exact HOL.out, HS.out, HB2.out, HF.out, HBD2.out⟩
            case measure => simp [intOf]; omega
          · rw [if_pos h3] at hF
            have HF := Lib.hid hF
            have HBL := Lib.hid hbel
            have hb3 : (y != 0) = true := by simpa using h3
            clear hF hol hbd hO hx hy h1 h2 h3 hbel
            go_wp2_with (fail)
            go_ret
            rw [← HF.out]
            exact ⟨HBL.out, rfl⟩
end Go.Proofs.Ytbhhebheclfdlaa
