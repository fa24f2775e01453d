/- Contracts of class.Mirror, visual.Row, visual.Order. -/
import Derived.Test.YtlbclfmbejjneaaGreatDoorV1
import Derived.Test.YtlbclfmbejjneaaGreatDoorV6
import Derived.RegionTactic
import Derived.Scope
namespace Go.Proofs.YtlbclfmbejjneaaGreatDoor
section

def mirrorI (r : Int) : Int :=
  if (pairI r).2.2 = true then (pairI r).1
  else if r = 60 ∨ r = 65308 then r + 2 else if r = 62 ∨ r = 65310 then r - 2
  else if r = 171 then 187 else if r = 187 then 171
  else if r = 8249 ∨ r = 8250 then 16499 - r else if r = 8804 ∨ r = 8805 then 17609 - r else r
def mirroredI (r : Int) (x : Nat) : Int := if x % 2 = 1 then mirrorI r else r
/-- where each place is seen, one more; none: the numbers are no order -/
def turnF (os : List Int) (n : Nat) : Nat → Nat → List Int → Option (List Int)
  | 0, _, out => some out
  | m + 1, i, out => if ith os i < 0 ∨ (n : Int) ≤ ith os i then none else if ith out (ith os i).toNat ≠ 0 then none else turnF os n m (i + 1) (out.set (ith os i).toNat ((i : Int) + 1))
def turnedI (os : List Int) : Option (List Int) := (turnF os os.length os.length 0 (List.replicate os.length 0)).map (fun l => l.map (fun x => x - 1))
/-- a row's levels: from its end on, what hangs has the base -/
def hangsF (d : Int) (h : Bool) : Bool := if d = 11 ∨ d = 10 then true else if d ≠ 12 ∧ leftB d = false ∧ (d < 19 ∨ 22 < d) then false else h
def hangF (cs : List Int) (base fr : Nat) : Nat → Bool → List Nat → List Nat
  | 0, _, out => out
  | i + 1, h, out =>
    hangF cs base fr i (hangsF (dirI (ith cs (fr + i))) h) (if hangsF (dirI (ith cs (fr + i))) h = true then (out.set i (min (out.getD i 0) 126)).set i base else out.set i (min (out.getD i 0) 126))
def clampN (n : Nat) (x : Int) : Nat := min x.toNat n
def rowI (cs : List Int) (ls : List Nat) (base : Nat) (fr tt : Int) : Option (List Nat) :=
  let n := min cs.length ls.length
  if clampN n tt < clampN n fr then none
  else some (hangF cs (min base 126) (clampN n fr) (clampN n tt - clampN n fr) true ((ls.drop (clampN n fr)).take (clampN n tt - clampN n fr)))
set_option linter.unusedVariables false
set_option linter.unusedSimpArgs false
open Go.RowKit

set_option maxRecDepth 100000 in
set_option maxHeartbeats 1000000 in
theorem Mirror_any (r : Int) (w : World) : Calls Tryz.prog 81 #[.int .i32 r] w fun e w' => e = .returned (.int .i32 (mirrorI r)) ∧ w = w' := by
  have hM : mirrorI r = if (pairI r).2.2 = true then (pairI r).1
      else if r = 60 ∨ r = 65308 then r + 2 else if r = 62 ∨ r = 65310 then r - 2
      else if r = 171 then 187 else if r = 187 then 171
      else if r = 8249 ∨ r = 8250 then 16499 - r else if r = 8804 ∨ r = 8805 then 17609 - r else r := rfl
  have HP := Lib.hid (Pair_any r w)
  unfold PairPost at HP
  obtain ⟨pr, hpr⟩ : ∃ pr, pairI r = pr := ⟨_, rfl⟩
  rw [hpr] at hM HP
  obtain ⟨o, op, ok⟩ := pr
  simp only at hM HP
  clear hpr
  have HM := Lib.hid hM
  clear hM
  go_enter Tryz.func81, Tryz.ntmps81
  cases ok with
  | true =>
    go_wp2_with (go_at_call 108; refine HP.out.mono ?_; rintro e w' ⟨rfl, hw'⟩; subst hw')
    go_ret
    exact ⟨ret_i (by rw [HM.out, if_pos (by first | rfl | trivial)]), rfl⟩
  | false =>
    have e := HM.out
    rw [if_neg (by decide)] at e
    have HE := Lib.hid e
    clear e HM
    by_cases h1 : r = 60 ∨ r = 65308
    · have e := HE.out.trans (if_pos h1)
      have HF := Lib.hid e
      clear e
      rcases h1 with rfl | rfl
      all_goals
        go_wp2_with (go_at_call 108; refine HP.out.mono ?_; rintro e w' ⟨rfl, hw'⟩; subst hw')
        go_ret
        exact ⟨ret_i (by rw [HF.out]; rfl), rfl⟩
    · have e := HE.out.trans (if_neg h1)
      by_cases h2 : r = 62 ∨ r = 65310
      · have HF := Lib.hid (e.trans (if_pos h2))
        clear e
        rcases h2 with rfl | rfl
        all_goals
          go_wp2_with (go_at_call 108; refine HP.out.mono ?_; rintro e w' ⟨rfl, hw'⟩; subst hw')
          go_ret
          exact ⟨ret_i (by rw [HF.out]; rfl), rfl⟩
      · replace e := e.trans (if_neg h2)
        by_cases h3 : r = 171
        · have HF := Lib.hid (e.trans (if_pos h3))
          clear e
          subst h3
          go_wp2_with (go_at_call 108; refine HP.out.mono ?_; rintro e w' ⟨rfl, hw'⟩; subst hw')
          go_ret
          exact ⟨ret_i (by rw [HF.out]), rfl⟩
        · replace e := e.trans (if_neg h3)
          by_cases h4 : r = 187
          · have HF := Lib.hid (e.trans (if_pos h4))
            clear e
            subst h4
            go_wp2_with (go_at_call 108; refine HP.out.mono ?_; rintro e w' ⟨rfl, hw'⟩; subst hw')
            go_ret
            exact ⟨ret_i (by rw [HF.out]), rfl⟩
          · replace e := e.trans (if_neg h4)
            by_cases h5 : r = 8249 ∨ r = 8250
            · have HF := Lib.hid (e.trans (if_pos h5))
              clear e
              rcases h5 with rfl | rfl
              all_goals
                go_wp2_with (go_at_call 108; refine HP.out.mono ?_; rintro e w' ⟨rfl, hw'⟩; subst hw')
                go_ret
                exact ⟨ret_i (by rw [HF.out]; rfl), rfl⟩
            · replace e := e.trans (if_neg h5)
              by_cases h6 : r = 8804 ∨ r = 8805
              · have HF := Lib.hid (e.trans (if_pos h6))
                clear e
                rcases h6 with rfl | rfl
                all_goals
                  go_wp2_with (go_at_call 108; refine HP.out.mono ?_; rintro e w' ⟨rfl, hw'⟩; subst hw')
                  go_ret
                  exact ⟨ret_i (by rw [HF.out]; rfl), rfl⟩
              · have HF := Lib.hid (e.trans (if_neg h6))
                have n1 : (r == 60) = false := by rw [beq_eq_false_iff_ne]; omega
                have n2 : (r == 65308) = false := by rw [beq_eq_false_iff_ne]; omega
                have n3 : (r == 62) = false := by rw [beq_eq_false_iff_ne]; omega
                have n4 : (r == 65310) = false := by rw [beq_eq_false_iff_ne]; omega
                have n5 : (r == 171) = false := by rw [beq_eq_false_iff_ne]; omega
                have n6 : (r == 187) = false := by rw [beq_eq_false_iff_ne]; omega
                have n7 : (r == 8249) = false := by rw [beq_eq_false_iff_ne]; omega
                have n8 : (r == 8250) = false := by rw [beq_eq_false_iff_ne]; omega
                have n9 : (r == 8804) = false := by rw [beq_eq_false_iff_ne]; omega
                have n10 : (r == 8805) = false := by rw [beq_eq_false_iff_ne]; omega
                clear e h1 h2 h3 h4 h5 h6 HE
                go_wp2_with (go_at_call 108; refine HP.out.mono ?_; rintro e w' ⟨rfl, hw'⟩; subst hw')
                go_ret
                exact ⟨ret_i (by rw [HF.out]), rfl⟩
end
section
set_option linter.unusedVariables false
set_option linter.unusedSimpArgs false
open Go.RowKit

set_option maxRecDepth 100000 in
set_option maxHeartbeats 400000 in
theorem ClU_any (a : Option Addr) (c L : Nat) (l : List Int) (w : World) (hl : l.length = L) (hd : Rd .u8 w a l) (hn : L ≤ 2097152) (hnil : a = none → c = 0) :
    Calls Tryz.prog 104 #[.slice a L c] w fun e w' => ∃ a c', e = .returned (.slice a L c') ∧ OutAt .u8 5 w' w.heap.size a c' l ∧ Below w.heap.size w w' := by
  obtain ⟨i3, hi3, hz3, ha3, hb3⟩ := info_parts (Tryz.info_u8)
  have q22 : ∀ (w : World) (a : Option Addr) (n c n' c' : Nat), (binOp .eql 42 (.slice a n c) (.slice none n' c')).run Tryz.prog w = .ok (.bool a.isNone) w := fun w a n c n' c' => Lib.run_eql_slice_nil w _ _ a n c n' c' Tryz.underlying42
  have HL := Lib.hid hl
  cases a with
  | none =>
    have hl0 : l = [] := by
      rcases hd with h | ⟨_, _, e, _⟩
      · exact h
      · cases e
    have h0 : L = 0 := by rw [← hl, hl0]; rfl
    subst hl0 h0
    clear hl hd
    go_enter Tryz.func104, Tryz.ntmps104
    go_wp2_with (fail)
    go_ret
    exact ⟨none, 0, rfl, World.ownsRow_nil _ _ _ _, Below.refl _ _⟩
  | some ad =>
    have hcells : ∀ j u, (l.map (Value.int .u8))[j]? = some u → (w.alloc (.cells #[] 5)).cell? (ad.add j) = some u := fun j u hj => by
      have hjl : j < l.length := by
        rcases Nat.lt_or_ge j l.length with h | h
        · exact h
        · rw [List.getElem?_eq_none (by rw [List.length_map]; exact h)] at hj; cases hj
      obtain ⟨b, off, e, hb, hc⟩ := hd.at ((Below.refl w.heap.size w).alloc (Nat.le_refl _) (.cells #[] 5)) j hjl
      cases e
      rw [List.getElem?_map, ith_get hjl] at hj
      cases hj
      rw [Addr.add_lit, hc]
    have HC := Lib.hid hcells
    clear hcells hl hd
    go_enter Tryz.func104, Tryz.ntmps104
    go_wp2_with (at_builtin; refine wpList_append_own _ rfl _ _ 42 rfl w.heap.size 5 i3 (.int .u8 0) 1 1 Tryz.underlying42 hi3 hz3 ha3 hb3 rfl (by decide) _ _ _ rfl (World.ownsRow_made w #[] 0 (Nat.le_refl _) (Nat.zero_le _) (by simp)) ad L c (l.map (Value.int .u8)) rfl (by rw [List.length_map, HL.out]; omega) HC.out (fun u hu => by rw [List.mem_map] at hu; obtain ⟨x, _, rfl⟩ := hu; rfl) (by unfold maxLen; omega) (by omega) (by simp) ?_; intro v' w' ho hg _)
    obtain ⟨va, vc, hva, _, _⟩ := own_slice ho
    subst hva
    go_ret
    rw [Nat.zero_add, List.nil_append] at ho
    refine ⟨va, vc, by rw [Nat.zero_add]; rfl, ?_, ((Below.refl w.heap.size w).alloc (Nat.le_refl _) _).grown hg (by simp) (fun k hk => by cases hk; exact Nat.le_refl _)⟩
    unfold OutAt
    rw [HL.out]
    exact ho
def RowPost (R : Option (List Nat)) (w : World) (e' : Ending) (w' : World) : Prop :=
  Below w.heap.size w w' ∧ match R with
    | none => e' = .returned (.slice none 0 0)
    | some l => ∃ a c, e' = .returned (.slice a l.length c) ∧ OutAt .u8 5 w' w.heap.size a c (ints l)
theorem hangF_len (cs : List Int) (base fr : Nat) : ∀ (i : Nat) (h : Bool) (out : List Nat), (hangF cs base fr i h out).length = out.length
  | 0, h, out => rfl
  | i + 1, h, out => by
    rw [hangF, hangF_len cs base fr i]
    split <;> simp
theorem ints_take (l : List Nat) (k : Nat) : ints (l.take k) = (ints l).take k := by unfold ints; rw [List.map_take]
theorem ints_drop (l : List Nat) (k : Nat) : ints (l.drop k) = (ints l).drop k := by unfold ints; rw [List.map_drop]
set_option maxRecDepth 100000 in
set_option maxHeartbeats 1000000 in
theorem Row_any (a la : Option Addr) (cs : List Int) (ls : List Nat) (n1 n2 c lc base : Nat) (fr tt : Int) (w : World) (h1 : cs.length = n1) (h2 : ls.length = n2) (hc : Rd .i32 w a cs) (hls : Rd .u8 w la (ints ls)) (hn1 : n1 ≤ 2097152) (hn2 : n2 ≤ 2097152)
    (hlc : n2 ≤ lc) (hcm : lc ≤ 9223372036854775807) (hla : (la = none ∧ lc = 0) ∨ ∃ G o, la = some ⟨G, o, none⟩) :
    Calls Tryz.prog 78 #[.slice a n1 c, .slice la n2 lc, .int .u8 base, .int .i64 fr, .int .i64 tt] w (RowPost (rowI cs ls base fr tt) w) := by
  obtain ⟨M, hM⟩ : ∃ M, min n1 n2 = M := ⟨_, rfl⟩
  obtain ⟨F, hF⟩ : ∃ F, clampN M fr = F := ⟨_, rfl⟩
  obtain ⟨T, hT⟩ : ∃ T, clampN M tt = T := ⟨_, rfl⟩
  obtain ⟨B6, hB6⟩ : ∃ B6, min base 126 = B6 := ⟨_, rfl⟩
  have hR : rowI cs ls base fr tt = if T < F then none else some (hangF cs B6 F (T - F) true ((ls.drop F).take (T - F))) := by
    unfold rowI
    simp only [h1, h2, hM, hF, hT, hB6]
  rw [hR]
  have eM : min (n1 : Int) (n2 : Int) = (M : Int) := by omega
  have eF : min (max fr 0) (M : Int) = (F : Int) := by rw [← hF]; unfold clampN; omega
  have eT : min (max tt 0) (M : Int) = (T : Int) := by rw [← hT]; unfold clampN; omega
  have eB : min (base : Int) 126 = (B6 : Int) := by omega
  have hFM : F ≤ M := by rw [← hF]; unfold clampN; omega
  have hTM : T ≤ M := by rw [← hT]; unfold clampN; omega
  have H1 := Lib.hid h1
  have H2 := Lib.hid h2
  clear hM hF hT hB6 hR h1 h2
  by_cases hTF : T < F
  · rw [if_pos hTF]
    have ht : (T : Int) < (F : Int) := by omega
    go_enter Tryz.func78, Tryz.ntmps78
    go_wp2_with (fail)
    go_ret
    exact ⟨Below.refl _ _, rfl⟩
  · rw [if_neg hTF]
    obtain ⟨K, hK⟩ : ∃ K, T - F = K := ⟨_, rfl⟩
    rw [hK]
    obtain ⟨l0, hl0⟩ : ∃ l0, (ls.drop F).take K = l0 := ⟨_, rfl⟩
    rw [hl0]
    have hl0l : l0.length = K := by rw [← hl0, List.length_take, List.length_drop]; have := H2.out; omega
    obtain ⟨FIN, hFIN⟩ : ∃ FIN, hangF cs B6 F K true l0 = FIN := ⟨_, rfl⟩
    rw [hFIN]
    have hfl : FIN.length = K := by rw [← hFIN, hangF_len, hl0l]
    have HFL := Lib.hid hfl
    have HFIN := Lib.hid hFIN
    have HK := Lib.hid hK
    have HL0 := Lib.hid hl0l
    have ht : ¬ (T : Int) < (F : Int) := by omega
    have ht2 : (F : Int) ≤ (T : Int) := by omega
    have gF0 : (0 : Int) ≤ (F : Int) := by omega
    have gT1 : (T : Int) ≤ (lc : Int) := by omega
    have gT0 : (0 : Int) ≤ (T : Int) := by omega
    have hcl : ∀ ad c', (ad = la ∧ (F = 0 ∨ K = 0) ∨ ∃ G o, la = some ⟨G, o, none⟩ ∧ ad = some ⟨G, o + F, none⟩) → (ad = none → c' = 0) →
        Calls Tryz.prog 104 #[.slice ad K c'] w fun e w' => ∃ a c', e = .returned (.slice a K c') ∧ OutAt .u8 5 w' w.heap.size a c' (ints l0) ∧ Below w.heap.size w w' := fun ad c' had hnil => by
      refine ClU_any ad c' K (ints l0) w (by rw [ints_len]; exact hl0l) ?_ (by omega) hnil
      rcases had with ⟨rfl, h | h⟩ | ⟨G, o, e, rfl⟩
      · subst h
        rw [← hl0, List.drop_zero, ints_take]
        exact rd_take hls K
      · exact .inl (List.eq_nil_of_length_eq_zero (by rw [ints_len, hl0l]; exact h))
      · rw [e] at hls
        rw [← hl0, ints_take, ints_drop]
        exact rd_take (rd_drop hls F) K
    have HCL := Lib.hid hcl
    clear hfl hFIN hK hl0 hl0l hcl hTF
    go_enter Tryz.func78, Tryz.ntmps78
    go_upto_region 5 with (fail)
    go_cut [12] (fun v wx => ∃ oa oc, v = .slice oa K oc ∧ OutAt .u8 5 wx w.heap.size oa oc (ints l0) ∧ Below w.heap.size w wx)
    case first =>
      rcases hla with ⟨rfl, rfl⟩ | ⟨G, o, rfl⟩
      · have hT0 : T = 0 := by omega
        have hF0 : F = 0 := by omega
        have hK0 : K = 0 := by have := HK.out; omega
        subst hT0 hF0 hK0
        have hcal := HCL.out none 0 (.inl ⟨rfl, .inl rfl⟩) (fun _ => rfl)
        go_wp2_with (go_at_call 104; refine hcal.mono ?_; rintro e w1 ⟨oa, oc, rfl, hO1, hb1⟩)
        go_meet
        exact ⟨oa, oc, rfl, hO1, hb1⟩
      · have hKi : T - F = K := HK.out
        by_cases hcF : lc = F
        · have hK0 : K = 0 := by omega
          have hTF2 : T = F := by omega
          subst hK0 hTF2
          subst hcF
          have hcal := HCL.out (some ⟨G, o, none⟩) 0 (.inl ⟨rfl, .inr rfl⟩) (fun e => by cases e)
          clear hKi
          go_wp2_with (go_at_call 104; refine hcal.mono ?_; rintro e w1 ⟨oa, oc, rfl, hO1, hb1⟩)
          go_meet
          exact ⟨oa, oc, rfl, hO1, hb1⟩
        · have hcal := HCL.out (some ⟨G, o + F, none⟩) (lc - F) (.inr ⟨G, o, rfl, rfl⟩) (fun e => by cases e)
          rw [← hKi] at hcal
          have HKI := Lib.hid hKi
          clear hKi
          go_wp2_with (go_at_call 104; refine hcal.mono ?_; rintro e w1 ⟨oa, oc, rfl, hO1, hb1⟩)
          go_meet
          exact ⟨oa, oc, by rw [HKI.out], hO1, hb1⟩
    case rest =>
      obtain ⟨oa, oc, rfl, hO1, hb1⟩ := hcut
      have hK2 : K ≤ n1 := by have := HK.out; omega
      have hFK : F + K ≤ n1 := by have := HK.out; omega
      clear hFM hTM ht ht2 gT0 gT1 HCL eM eF eT
      go_wp2_with (fail)
      go_loopw [13, 14] (fun u13 u14 wx => ∃ (k : Nat) (z : Int) (h : Bool) (out : List Nat), u13 = .bool h ∧ u14 = .int .i64 z ∧ z + 1 = k ∧ k ≤ K ∧ OutAt .u8 5 wx w.heap.size oa oc (ints out) ∧ out.length = K ∧ Below w.heap.size w wx ∧ hangF cs B6 F k h out = FIN) (fun _ c _ => (intOf c + 1).toNat)
      case atStart => exact ⟨K, (K : Int) - 1, true, l0, rfl, by go_num, by omega, Nat.le_refl _, hO1, HL0.out, hb1, HFIN.out⟩
      case round =>
        obtain ⟨k, z, h, out, rfl, rfl, hzk, hkK, hO, hol, hbel, hF⟩ := hrel
        clear hO1 hb1
        cases k with
        | zero =>
          have hz : z = -1 := by omega
          subst hz
          rw [hangF] at hF
          have HF := Lib.hid hF
          have HOL := Lib.hid hol
          have HO := Lib.hid hO
          clear hF hol hzk hO
          go_wp2_with (fail)
          go_ret
          refine ⟨hbel, ?_⟩
          have e := HF.out
          subst e
          exact ⟨oa, oc, by rw [HOL.out]; rfl, HO.out⟩
        | succ k =>
          have hz : z = (k : Int) := by omega
          subst hz
          obtain ⟨G, hG, _, hGl, hXo, hFo, _, _⟩ := hO.at k (by rw [ints_len, hol]; omega)
          subst hG
          obtain ⟨Gc, co, rfl, hGc, hcc⟩ := hc.at hbel (F + k) (by rw [H1.out]; omega)
          obtain ⟨x, hx⟩ : ∃ x, out.getD k 0 = x := ⟨_, rfl⟩
          rw [ith_ints, hx] at hXo
          obtain ⟨y, hy⟩ : ∃ y, ith cs (F + k) = y := ⟨_, rfl⟩
          rw [hy] at hcc
          rw [hangF, hy, hx] at hF
          obtain ⟨m6, hm6⟩ : ∃ m6, min x 126 = m6 := ⟨_, rfl⟩
          rw [hm6] at hF
          have hmi : min (x : Int) 126 = (m6 : Int) := by omega
          obtain ⟨d, hd⟩ : ∃ d, dirI y = d := ⟨_, rfl⟩
          rw [hd] at hF
          obtain ⟨hh, hhh⟩ : ∃ hh, hangsF d h = hh := ⟨_, rfl⟩
          rw [hhh] at hF
          have HF := Lib.hid hF
          have HO := Lib.hid hO
          have HOL := Lib.hid hol
          have HBE := Lib.hid hbel
          have HH : Hid (hh = if d = 11 ∨ d = 10 then true else if d ≠ 12 ∧ leftB d = false ∧ (d < 19 ∨ 22 < d) then false else h) := Lib.hid hhh.symm
          have hDir : Hid (∀ W, Calls Tryz.prog 100 #[.int .i32 y] W fun e w' => e = .returned (.int .i8 d) ∧ Below W.heap.size W w') := Lib.hid fun W => by rw [← hd]; exact Dir_any y W
          have gk0 : (0 : Int) ≤ (k : Int) := by omega
          have gk1 : (k : Int) < (K : Int) := by omega
          have gfk : (F : Int) + (k : Int) < (n1 : Int) := by omega
          clear hF hO hol hbel hx hy hm6 hd hhh hzk
          go_upto_region 12 with (fail)
          have hO2 : OutAt .u8 5 (wr.setCell ⟨G, k, none⟩ (.int .u8 (m6 : Nat))) w.heap.size (some ⟨G, 0, none⟩) oc (ints (out.set k m6)) := by rw [ints_set]; exact HO.out.set k m6
          have hb2 : Below w.heap.size w (wr.setCell ⟨G, k, none⟩ (.int .u8 (m6 : Nat))) := HBE.out.setCell (p := ⟨G, k, none⟩) (by exact (HO.out.lt).1) _
          have hcc2 : (wr.setCell ⟨G, k, none⟩ (.int .u8 (m6 : Nat))).cell? ⟨Gc, co + (F + k), none⟩ = some (.int .i32 y) := (World.cell?_of_block (a := ⟨Gc, co + (F + k), none⟩) (heap_setCell_other wr ⟨G, k, none⟩ Gc _ (by show Gc ≠ G; have := (HO.out.lt).1; omega))).trans hcc
          obtain ⟨w2, hw2⟩ : ∃ w2, w2 = wr.setCell ⟨G, k, none⟩ (.int .u8 (m6 : Nat)) := ⟨_, rfl⟩
          rw [← hw2] at hO2 hb2 hcc2 ⊢
          have hGl2 : G < w2.heap.size := hO2.lt.2
          have HO2 := Lib.hid hO2
          have HB2 := Lib.hid hb2
          obtain ⟨_, hGe, _, _, hXk, hFk, _, _⟩ := hO2.at k (by rw [ints_len, List.length_set, HOL.out]; omega)
          cases hGe
          generalize ith (ints (out.set k m6)) k = vv at hXk
          clear hO2 hb2 hw2 hXo hFo hcc hmi hGl
          go_upto_block 2 with (go_at_call 100; refine (hDir.out _).mono ?_; rintro e w3 ⟨rfl, hw3⟩; have hX3 := (hw3.cell (p := ⟨G, k, none⟩) hGl2).trans hXk; have hF3 := (hw3.frozen (p := ⟨G, k, none⟩) hGl2).trans hFk; have HW3 := Lib.hid hw3; clear hw3)
          go_cut [13] (fun v wx => v = .bool hh ∧ wx = w3)
          case first =>
            obtain ⟨lb, hlb⟩ : ∃ lb, leftB d = lb := ⟨_, rfl⟩
            have HLB : Hid (∀ W, Calls Tryz.prog 105 #[.int .i8 d] W fun e w' => e = .returned (.bool lb) ∧ W = w') := Lib.hid fun W => by rw [← hlb]; exact vleft_any d W
            have HH2 := HH
            rw [hlb] at HH2
            clear hlb hX3 hF3
            by_cases h11 : d = 11
            · subst h11
              have HE := Lib.hid (HH2.out.trans (if_pos (.inl rfl)))
              go_wp2_with (fail)
              go_meet
              exact ⟨by rw [HE.out], rfl⟩
            · by_cases h10 : d = 10
              · subst h10
                have HE := Lib.hid (HH2.out.trans (if_pos (.inr rfl)))
                go_wp2_with (fail)
                go_meet
                exact ⟨by rw [HE.out], rfl⟩
              · have e := HH2.out.trans (if_neg (by omega))
                have c11 : (d == 11) = false := by simpa using h11
                have c10 : (d == 10) = false := by simpa using h10
                by_cases h12 : d = 12
                · subst h12
                  have HE := Lib.hid (e.trans (if_neg (fun h => h.1 rfl)))
                  clear e
                  go_wp2_with (fail)
                  go_meet
                  exact ⟨by rw [HE.out], rfl⟩
                · have c12 : (d == 12) = false := by simpa using h12
                  have c12' : (d != 12) = true := by simpa using h12
                  cases lb with
                  | true =>
                    have HE := Lib.hid (e.trans (if_neg (fun h => by have := h.2.1; simp at this)))
                    clear e h10 h11 h12
                    go_wp2_with (go_at_call 105; refine (HLB.out _).mono ?_; rintro e w' ⟨rfl, hw'⟩; subst hw')
                    go_meet
                    exact ⟨by rw [HE.out], rfl⟩
                  | false =>
                    by_cases h19 : d < 19
                    · have HE := Lib.hid (e.trans (if_pos ⟨h12, rfl, .inl h19⟩))
                      clear e h10 h11 h12
                      go_wp2_with (go_at_call 105; refine (HLB.out _).mono ?_; rintro e w' ⟨rfl, hw'⟩; subst hw')
                      go_meet
                      exact ⟨by rw [HE.out], rfl⟩
                    · by_cases h22 : 22 < d
                      · have HE := Lib.hid (e.trans (if_pos ⟨h12, rfl, .inr h22⟩))
                        clear e h10 h11 h12
                        go_wp2_with (go_at_call 105; refine (HLB.out _).mono ?_; rintro e w' ⟨rfl, hw'⟩; subst hw')
                        go_meet
                        exact ⟨by rw [HE.out], rfl⟩
                      · have HE := Lib.hid (e.trans (if_neg (fun h => by have := h.2.2; omega)))
                        clear e h10 h11 h12
                        go_wp2_with (go_at_call 105; refine (HLB.out _).mono ?_; rintro e w' ⟨rfl, hw'⟩; subst hw')
                        go_meet
                        exact ⟨by rw [HE.out], rfl⟩
          case rest =>
            obtain ⟨rfl, hwx⟩ := hcut
            have hwx' := hwx.symm
            clear hwx
            subst hwx'
            have hO3 := HO2.out.keep HW3.out
            have hS3 := hO3.set k B6
            rw [← ints_set] at hS3
            have HO3 := Lib.hid hO3
            have HS3 := Lib.hid hS3
            have HB3 : Hid (Below w.heap.size w w3) := Lib.hid (HB2.out.trans (HW3.out.mono HB2.out.size))
            clear hO3 hS3
            cases hh with
            | true =>
              go_wp2_with (fail)
              go_roundw
              case rel => exact ⟨k, (k : Int) - 1, true, _, rfl, by go_num, by omega, by omega, HS3.out, by rw [List.length_set, List.length_set]; exact HOL.out, HB3.out.setCell (p := ⟨G, k, none⟩) (by exact (HO.out.lt).1) _, by have := HF.out; rwa [if_pos (by first | rfl | trivial)] at this⟩
              case measure => simp [intOf]
            | false =>
              go_wp2_with (fail)
              go_roundw
              case rel => exact ⟨k, (k : Int) - 1, false, _, rfl, by go_num, by omega, by omega, HO3.out, by rw [List.length_set]; exact HOL.out, HB3.out, by have := HF.out; rwa [if_neg (by simp)] at this⟩
              case measure => simp [intOf]
end
section
set_option linter.unusedVariables false
set_option linter.unusedSimpArgs false

/-- the start of the stretch with at least level x that ends ahead of p -/
def loF (lv : Nat → Nat) (x : Nat) : Nat → Nat
  | 0 => 0
  | p + 1 => if x ≤ lv p then loF lv x p else p + 1
/-- the end of the stretch that goes on at p, m places being looked at -/
def hiF (lv : Nat → Nat) (x : Nat) : Nat → Nat → Nat
  | 0, p => p
  | m + 1, p => if x ≤ lv p then hiF lv x m (p + 1) else p
def revI (lv : Nat → Nat) (n x p : Nat) : Nat := if p < n ∧ x ≤ lv p then loF lv x p + hiF lv x (n - p) p - 1 - p else p
/-- [s, e) is a stretch of places with at least level x, and none longer -/
structure Str (lv : Nat → Nat) (n x s e : Nat) : Prop where
  se : s ≤ e
  en : e ≤ n
  all : ∀ q, s ≤ q → q < e → x ≤ lv q
  left : s = 0 ∨ lv (s - 1) < x
  right : e = n ∨ lv e < x
theorem lo_of {lv : Nat → Nat} {x s : Nat} (hl : s = 0 ∨ lv (s - 1) < x) : ∀ d, (∀ q, s ≤ q → q < s + d → x ≤ lv q) → loF lv x (s + d) = s
  | 0, _ => by
    cases s with
    | zero => rfl
    | succ s =>
      show (if x ≤ lv s then loF lv x s else s + 1) = s + 1
      rw [if_neg]
      rcases hl with h | h
      · cases h
      · rw [Nat.add_sub_cancel] at h; omega
  | d + 1, h => by
    show (if x ≤ lv (s + d) then loF lv x (s + d) else s + d + 1) = s
    rw [if_pos (h (s + d) (by omega) (by omega))]
    exact lo_of hl d (fun q h1 h2 => h q h1 (by omega))
theorem hi_of {lv : Nat → Nat} {x e : Nat} : ∀ m p, p ≤ e → e ≤ p + m → (∀ q, p ≤ q → q < e → x ≤ lv q) → (e = p + m ∨ lv e < x) → hiF lv x m p = e
  | 0, p, h1, h2, _, _ => by show p = e; omega
  | m + 1, p, h1, h2, h3, h4 => by
    show (if x ≤ lv p then hiF lv x m (p + 1) else p) = e
    by_cases h : p = e
    · subst h
      rw [if_neg]
      rcases h4 with h | h <;> omega
    · rw [if_pos (h3 p (by omega) (by omega))]
      exact hi_of m (p + 1) (by omega) (by omega) (fun q h1 h2 => h3 q (by omega) h2) (by rcases h4 with h | h; exact .inl (by omega); exact .inr h)
theorem lo_str (lv : Nat → Nat) (x : Nat) : ∀ p, loF lv x p ≤ p ∧ (∀ q, loF lv x p ≤ q → q < p → x ≤ lv q) ∧ (loF lv x p = 0 ∨ lv (loF lv x p - 1) < x)
  | 0 => ⟨Nat.le_refl _, fun q h1 h2 => absurd h2 (by omega), .inl rfl⟩
  | p + 1 => by
    obtain ⟨h1, h2, h3⟩ := lo_str lv x p
    unfold loF
    by_cases h : x ≤ lv p
    · rw [if_pos h]
      exact ⟨by omega, fun q a b => by
        by_cases hq : q = p
        · subst hq; exact h
        · exact h2 q a (by omega), h3⟩
    · rw [if_neg h]
      exact ⟨Nat.le_refl _, fun q a b => absurd b (by omega), .inr (by rw [Nat.add_sub_cancel]; omega)⟩
theorem hi_str (lv : Nat → Nat) (x : Nat) : ∀ m p, p ≤ hiF lv x m p ∧ hiF lv x m p ≤ p + m ∧ (∀ q, p ≤ q → q < hiF lv x m p → x ≤ lv q) ∧ (hiF lv x m p = p + m ∨ lv (hiF lv x m p) < x)
  | 0, p => ⟨Nat.le_refl _, Nat.le_refl _, fun q h1 h2 => absurd h2 (by unfold hiF; omega), .inl rfl⟩
  | m + 1, p => by
    obtain ⟨h1, h2, h3, h4⟩ := hi_str lv x m (p + 1)
    unfold hiF
    by_cases h : x ≤ lv p
    · rw [if_pos h]
      exact ⟨by omega, by omega, fun q a b => by
        by_cases hq : q = p
        · subst hq; exact h
        · exact h3 q (by omega) b, by rcases h4 with h4 | h4; exact .inl (by omega); exact .inr h4⟩
    · rw [if_neg h]
      exact ⟨Nat.le_refl _, by omega, fun q a b => absurd b (by omega), .inr (by omega)⟩
theorem str_at {lv : Nat → Nat} {n x p : Nat} (hp : p < n) (hx : x ≤ lv p) : ∃ s e, Str lv n x s e ∧ s ≤ p ∧ p < e := by
  obtain ⟨a1, a2, a3⟩ := lo_str lv x p
  obtain ⟨b1, b2, b3, b4⟩ := hi_str lv x (n - p) p
  refine ⟨loF lv x p, hiF lv x (n - p) p, ⟨by omega, by omega, fun q h1 h2 => ?_, a3, ?_⟩, a1, ?_⟩
  · by_cases h : q < p
    · exact a2 q h1 h
    · exact b3 q (by omega) h2
  · rcases b4 with h | h
    · exact .inl (by omega)
    · exact .inr h
  · by_cases h : hiF lv x (n - p) p = p
    · rcases b4 with h' | h'
      · omega
      · rw [h] at h'; omega
    · omega
theorem rev_str {lv : Nat → Nat} {n x s e p : Nat} (h : Str lv n x s e) (h1 : s ≤ p) (h2 : p < e) : revI lv n x p = s + e - 1 - p := by
  have hlo : loF lv x p = s := by
    have := lo_of (lv := lv) h.left (p - s) (fun q a b => h.all q a (by omega))
    rwa [show s + (p - s) = p by omega] at this
  have hhi : hiF lv x (n - p) p = e := hi_of (n - p) p (by omega) (by have := h.en; omega) (fun q a b => h.all q (by omega) b) (by
    rcases h.right with r | r
    · exact .inl (by have := h.en; omega)
    · exact .inr r)
  unfold revI
  rw [if_pos ⟨by have := h.en; omega, h.all p h1 h2⟩, hlo, hhi]
theorem rev_out {lv : Nat → Nat} {n x p : Nat} (h : ¬ (p < n ∧ x ≤ lv p)) : revI lv n x p = p := if_neg h
theorem rev_in {lv : Nat → Nat} {n x s e p : Nat} (h : Str lv n x s e) (h1 : s ≤ p) (h2 : p < e) : s ≤ revI lv n x p ∧ revI lv n x p < e := by
  rw [rev_str h h1 h2]; omega
theorem rev_rev (lv : Nat → Nat) (n x p : Nat) : revI lv n x (revI lv n x p) = p := by
  by_cases h : p < n ∧ x ≤ lv p
  · obtain ⟨s, e, hs, h1, h2⟩ := str_at h.1 h.2
    have hi := rev_in hs h1 h2
    rw [rev_str hs hi.1 hi.2, rev_str hs h1 h2]
    omega
  · rw [rev_out h, rev_out h]
theorem rev_lt {lv : Nat → Nat} {n x p : Nat} (hp : p < n) : revI lv n x p < n := by
  by_cases h : p < n ∧ x ≤ lv p
  · obtain ⟨s, e, hs, h1, h2⟩ := str_at h.1 h.2
    have hi := rev_in hs h1 h2
    have := hs.en
    omega
  · rw [rev_out h]; exact hp
/-- at each level that is no greater the place and its mirror are alike -/
theorem rev_lv {lv : Nat → Nat} {n x y p : Nat} (hy : y ≤ x) : (y ≤ lv (revI lv n x p)) ↔ y ≤ lv p := by
  by_cases h : p < n ∧ x ≤ lv p
  · obtain ⟨s, e, hs, h1, h2⟩ := str_at h.1 h.2
    have hi := rev_in hs h1 h2
    have a := hs.all _ hi.1 hi.2
    have b := hs.all _ h1 h2
    omega
  · rw [rev_out h]
/-- d levels from x up are turned: which place stands at p -/
def oF (lv : Nat → Nat) (n : Nat) : Nat → Nat → Nat → Nat
  | _, 0, p => p
  | x, d + 1, p => oF lv n (x + 1) d (revI lv n x p)
/-- .. and where a place is seen -/
def tF (lv : Nat → Nat) (n : Nat) : Nat → Nat → Nat → Nat
  | _, 0, k => k
  | x, d + 1, k => revI lv n x (tF lv n (x + 1) d k)
theorem oF_tF (lv : Nat → Nat) (n : Nat) : ∀ d x k, oF lv n x d (tF lv n x d k) = k
  | 0, _, _ => rfl
  | d + 1, x, k => by show oF lv n (x + 1) d (revI lv n x (revI lv n x (tF lv n (x + 1) d k))) = k; rw [rev_rev, oF_tF lv n d (x + 1) k]
theorem tF_oF (lv : Nat → Nat) (n : Nat) : ∀ d x p, tF lv n x d (oF lv n x d p) = p
  | 0, _, _ => rfl
  | d + 1, x, p => by show revI lv n x (tF lv n (x + 1) d (oF lv n (x + 1) d (revI lv n x p))) = p; rw [tF_oF lv n d (x + 1), rev_rev]
theorem tF_lt {lv : Nat → Nat} {n : Nat} : ∀ d x k, k < n → tF lv n x d k < n
  | 0, _, _, h => h
  | d + 1, x, k, h => rev_lt (tF_lt d (x + 1) k h)
theorem oF_lt {lv : Nat → Nat} {n : Nat} : ∀ d x p, p < n → oF lv n x d p < n
  | 0, _, _, h => h
  | d + 1, x, p, h => oF_lt d (x + 1) _ (rev_lt h)
theorem oF_lv {lv : Nat → Nat} {n y : Nat} : ∀ d x p, y ≤ x → ((y ≤ lv (oF lv n x d p)) ↔ y ≤ lv p)
  | 0, _, _, _ => Iff.rfl
  | d + 1, x, p, h => (oF_lv d (x + 1) _ (by omega)).trans (rev_lv h)
/-- a stretch of a lesser level is kept -/
theorem rev_keep {lv : Nat → Nat} {n x y s e p : Nat} (h : Str lv n x s e) (hy : x ≤ y) (h1 : s ≤ p) (h2 : p < e) : s ≤ revI lv n y p ∧ revI lv n y p < e := by
  by_cases hp : p < n ∧ y ≤ lv p
  · obtain ⟨s', e', hs, a, b⟩ := str_at hp.1 hp.2
    have hi := rev_in hs a b
    have c1 : s ≤ s' := by
      by_cases c : s ≤ s'
      · exact c
      · rcases h.left with l | l
        · omega
        · have := hs.all (s - 1) (by omega) (by omega); omega
    have c2 : e' ≤ e := by
      by_cases c : e' ≤ e
      · exact c
      · rcases h.right with l | l
        · have := hs.en; omega
        · have := hs.all e (by omega) (by omega); omega
    omega
  · rw [rev_out hp]; exact ⟨h1, h2⟩
theorem tF_keep {lv : Nat → Nat} {n x s e : Nat} (h : Str lv n x s e) : ∀ d y p, x ≤ y → s ≤ p → p < e → s ≤ tF lv n y d p ∧ tF lv n y d p < e
  | 0, _, _, _, h1, h2 => ⟨h1, h2⟩
  | d + 1, y, p, hy, h1, h2 => by
    have := tF_keep h d (y + 1) p (by omega) h1 h2
    exact rev_keep h hy this.1 this.2
theorem oF_keep {lv : Nat → Nat} {n x s e : Nat} (h : Str lv n x s e) : ∀ d y p, x ≤ y → s ≤ p → p < e → s ≤ oF lv n y d p ∧ oF lv n y d p < e
  | 0, _, _, _, h1, h2 => ⟨h1, h2⟩
  | d + 1, y, p, hy, h1, h2 => by
    have := rev_keep h hy h1 h2
    exact oF_keep h d (y + 1) _ (by omega) this.1 this.2
theorem tF_low {lv : Nat → Nat} {n : Nat} : ∀ d y k, (∀ z, y ≤ z → lv k < z) → tF lv n y d k = k
  | 0, _, _, _ => rfl
  | d + 1, y, k, h => by
    show revI lv n y (tF lv n (y + 1) d k) = k
    rw [tF_low d (y + 1) k (fun z hz => h z (by omega))]
    exact rev_out (fun c => by have := h y (Nat.le_refl _); omega)
def sg (j : Nat) : Int := if j % 2 = 0 then 1 else -1
theorem sg_succ (j : Nat) : sg (j + 1) = - sg j := by
  rcases Nat.mod_two_eq_zero_or_one j with h | h
  · have h2 : (j + 1) % 2 = 1 := by omega
    simp [sg, h, h2]
  · have h2 : (j + 1) % 2 = 0 := by omega
    simp [sg, h, h2]
/-- the places of a stretch at level x, turned at j levels from x down: seen one behind the other, in the one or the other direction -/
theorem aff {lv : Nat → Nat} {n g x s e : Nat} (h : Str lv n x s e) (hg : x ≤ g) : ∀ j, j ≤ x → ∃ (d : Int) (s' e' : Nat), e' ≤ n ∧ (∀ q, s' ≤ q → q < e' → x - j ≤ lv q) ∧
    ∀ k, s ≤ k → k < e → (s' ≤ tF lv n (x + 1 - j) (g - x + j) k ∧ tF lv n (x + 1 - j) (g - x + j) k < e') ∧ ((tF lv n (x + 1 - j) (g - x + j) k : Nat) : Int) = sg j * (tF lv n (x + 1) (g - x) k : Nat) + d
  | 0, _ => ⟨0, s, e, h.en, fun q a b => h.all q a b, fun k a b => ⟨tF_keep h (g - x) (x + 1) k (by omega) a b, by simp [sg]⟩⟩
  | j + 1, hj => by
    obtain ⟨d, s', e', hen, hall, hk⟩ := aff h hg j (by omega)
    by_cases hne : s < e
    · obtain ⟨s2, e2, hs2, a1, a2⟩ := str_at (lv := lv) (n := n) (x := x - j) (p := tF lv n (x + 1 - j) (g - x + j) s) (by have := (hk s (Nat.le_refl _) hne).1; omega) (hall _ (hk s (Nat.le_refl _) hne).1.1 (hk s (Nat.le_refl _) hne).1.2)
      have hsub : s2 ≤ s' ∧ e' ≤ e2 := by
        have hin := (hk s (Nat.le_refl _) hne).1
        constructor
        · by_cases c : s2 ≤ s'
          · exact c
          · rcases hs2.left with l | l
            · omega
            · have := hall (s2 - 1) (by omega) (by omega); omega
        · by_cases c : e' ≤ e2
          · exact c
          · rcases hs2.right with l | l
            · omega
            · have := hall e2 (by omega) (by omega); omega
      refine ⟨((s2 + e2 - 1 : Nat) : Int) - d, s2, e2, hs2.en, fun q a b => by have := hs2.all q a b; omega, fun k a b => ?_⟩
      have hin := hk k a b
      have hstep : tF lv n (x + 1 - (j + 1)) (g - x + (j + 1)) k = revI lv n (x - j) (tF lv n (x + 1 - j) (g - x + j) k) := by
        rw [show g - x + (j + 1) = (g - x + j) + 1 by omega, show x + 1 - (j + 1) = x - j by omega]
        show revI lv n (x - j) (tF lv n (x - j + 1) (g - x + j) k) = _
        rw [show x - j + 1 = x + 1 - j by omega]
      rw [hstep]
      have hr := rev_in hs2 (p := tF lv n (x + 1 - j) (g - x + j) k) (by omega) (by omega)
      refine ⟨hr, ?_⟩
      rw [rev_str hs2 (by omega) (by omega), sg_succ, Int.neg_mul]
      have := hin.2
      omega
    · exact ⟨0, s, e, h.en, fun q a b => by have := h.all q a b; omega, fun k a b => absurd b (by omega)⟩
/-- where the places of a stretch are seen at the end -/
theorem aff_end {lv : Nat → Nat} {n g x s e : Nat} (h : Str lv n x s e) (hg : x ≤ g) : ∃ d : Int, ∀ k, s ≤ k → k < e → ((tF lv n 1 g k : Nat) : Int) = sg x * (tF lv n (x + 1) (g - x) k : Nat) + d := by
  obtain ⟨d, s', e', _, _, hk⟩ := aff h hg x (Nat.le_refl _)
  refine ⟨d, fun k a b => ?_⟩
  have := (hk k a b).2
  rw [show x + 1 - x = 1 by omega, show g - x + x = g by omega] at this
  exact this
set_option linter.unusedVariables false
set_option linter.unusedSimpArgs false
open Go.RowKit

/-- the list of a function's values -/
def listOf (n : Nat) (g : Nat → Int) : List Int := (List.range n).map g
theorem listOf_len (n : Nat) (g : Nat → Int) : (listOf n g).length = n := by unfold listOf; simp
theorem listOf_ith (n : Nat) (g : Nat → Int) (p : Nat) (h : p < n) : ith (listOf n g) p = g p := by
  unfold listOf ith
  rw [List.getD_eq_getElem?_getD, List.getElem?_map, List.getElem?_range h]
  rfl
theorem list_ext {a b : List Int} (hl : a.length = b.length) (h : ∀ p, p < a.length → ith a p = ith b p) : a = b := by
  apply List.ext_getElem hl
  intro i h1 h2
  have := h i h1
  unfold ith at this
  rw [List.getD_eq_getElem?_getD, List.getD_eq_getElem?_getD, List.getElem?_eq_getElem h1, List.getElem?_eq_getElem h2] at this
  exact this
theorem listOf_congr {n : Nat} {g h : Nat → Int} (e : ∀ p, p < n → g p = h p) : listOf n g = listOf n h := by
  unfold listOf
  exact List.map_congr_left fun p hp => e p (List.mem_range.1 hp)
theorem listOf_set (n : Nat) (g : Nat → Int) (i : Nat) (v : Int) (h : i < n) : (listOf n g).set i v = listOf n (fun p => if p = i then v else g p) := by
  refine list_ext (by rw [List.length_set, listOf_len, listOf_len]) fun p hp => ?_
  rw [List.length_set, listOf_len] at hp
  rw [ith_set _ _ _ _ (by rw [listOf_len]; exact h), listOf_ith _ _ _ hp, listOf_ith _ _ _ hp]
  by_cases e : i = p
  · rw [if_pos e, if_pos e.symm]
  · rw [if_neg e, if_neg (fun h => e h.symm)]
/-- k pairs of places of [f, f + m) are changed -/
def swapG (g : Nat → Int) (f m k : Nat) (p : Nat) : Int := if (f ≤ p ∧ p < f + k) ∨ (f + m - k ≤ p ∧ p < f + m) then g (f + (f + m) - 1 - p) else g p
def revG (g : Nat → Int) (f m : Nat) (p : Nat) : Int := if f ≤ p ∧ p < f + m then g (f + (f + m) - 1 - p) else g p
theorem swapG_zero (g : Nat → Int) (f m p : Nat) : swapG g f m 0 p = g p := by
  unfold swapG
  rw [if_neg (by omega)]
theorem swapG_end (g : Nat → Int) (f m k p : Nat) (h : m ≤ 2 * k + 1) (hk : 2 * k ≤ m) : swapG g f m k p = revG g f m p := by
  unfold swapG revG
  by_cases h1 : f ≤ p ∧ p < f + m
  · rw [if_pos h1]
    by_cases h2 : (f ≤ p ∧ p < f + k) ∨ (f + m - k ≤ p ∧ p < f + m)
    · rw [if_pos h2]
    · rw [if_neg h2]
      congr 1
      omega
  · rw [if_neg h1]
    by_cases h2 : (f ≤ p ∧ p < f + k) ∨ (f + m - k ≤ p ∧ p < f + m)
    · omega
    · rw [if_neg h2]
theorem swapG_next (g : Nat → Int) (f m k p : Nat) (h : 2 * k + 1 < m) :
    (if p = f + (m - 1 - k) then g (f + k) else if p = f + k then g (f + (m - 1 - k)) else swapG g f m k p) = swapG g f m (k + 1) p := by
  unfold swapG
  by_cases e1 : p = f + (m - 1 - k)
  · rw [if_pos e1, if_pos (by omega)]
    congr 1; omega
  · rw [if_neg e1]
    by_cases e2 : p = f + k
    · rw [if_pos e2, if_pos (by omega)]
      congr 1; omega
    · rw [if_neg e2]
      by_cases h2 : (f ≤ p ∧ p < f + k) ∨ (f + m - k ≤ p ∧ p < f + m)
      · rw [if_pos h2, if_pos (by omega)]
      · rw [if_neg h2, if_neg (by omega)]
theorem turn_nil (a : Option Addr) (c : Nat) (w : World) : Calls Tryz.prog 82 #[.slice a 0 c] w fun e w' => e = .returned (.tuple #[]) ∧ w = w' := by
  go_enter Tryz.func82, Tryz.ntmps82
  go_wp2_with (fail)
  go_loopw [2, 3] (fun u2 u3 wx => u2 = .int .i64 0 ∧ u3 = .int .i64 (-1) ∧ w = wx) (fun _ _ _ => 0)
  case atStart => exact ⟨rfl, by go_num, rfl⟩
  case round =>
    obtain ⟨rfl, rfl, hwx⟩ := hrel
    subst hwx
    go_wp2_with (fail)
    go_end0
    exact ⟨rfl, rfl⟩
set_option maxRecDepth 100000 in
set_option maxHeartbeats 1000000 in
theorem turn_any (G f m c base N n : Nat) (g : Nat → Int) (w : World) (hO : OutAt .i64 3 w base (some ⟨G, 0, none⟩) N (listOf n g)) (hfm : f + m ≤ n) (hn : n ≤ 2097152) (hmc : m ≤ c) :
    Calls Tryz.prog 82 #[.slice (some ⟨G, f, none⟩) m c] w fun e w' => e = .returned (.tuple #[]) ∧ OutAt .i64 3 w' base (some ⟨G, 0, none⟩) N (listOf n (revG g f m)) ∧ w.grownBy w' (some G) := by
  have HO := Lib.hid hO
  clear hO
  go_enter Tryz.func82, Tryz.ntmps82
  go_wp2_with (fail)
  go_loopw [2, 3] (fun u2 u3 wx => ∃ (k : Nat) (z : Int), u2 = .int .i64 k ∧ u3 = .int .i64 z ∧ z + 1 + k = m ∧ 2 * k ≤ m ∧ OutAt .i64 3 wx base (some ⟨G, 0, none⟩) N (listOf n (swapG g f m k)) ∧ w.grownBy wx (some G)) (fun u2 _ _ => m - (intOf u2).toNat)
  case atStart => exact ⟨0, (m : Int) - 1, rfl, by go_num, by omega, by omega, by rw [listOf_congr (fun p _ => swapG_zero g f m p)]; exact HO.out, World.grownBy.refl _ _⟩
  case round =>
    obtain ⟨k, z, rfl, rfl, hz, hk2, hO, hg⟩ := hrel
    by_cases hlt : 2 * k + 1 < m
    · obtain ⟨b, rfl⟩ : ∃ b : Nat, z = b := ⟨z.toNat, by omega⟩
      have hbe : b = m - 1 - k := by omega
      obtain ⟨_, hG1, _, _, hXa, hFa, _, _⟩ := hO.at (f + k) (by rw [listOf_len]; omega)
      cases hG1
      obtain ⟨_, hG1, _, _, hXb, hFb, _, _⟩ := hO.at (f + b) (by rw [listOf_len]; omega)
      cases hG1
      rw [listOf_ith _ _ _ (by omega)] at hXa hXb
      have ea : swapG g f m k (f + k) = g (f + k) := by unfold swapG; rw [if_neg (by omega)]
      have eb : swapG g f m k (f + b) = g (f + b) := by unfold swapG; rw [if_neg (by omega)]
      rw [ea] at hXa
      rw [eb] at hXb
      obtain ⟨va, hva⟩ : ∃ va, g (f + k) = va := ⟨_, rfl⟩
      obtain ⟨vb, hvb⟩ : ∃ vb, g (f + b) = vb := ⟨_, rfl⟩
      rw [hva] at hXa
      rw [hvb] at hXb
      have hnx : ((listOf n (swapG g f m k)).set (f + k) vb).set (f + b) va = listOf n (swapG g f m (k + 1)) := by
        rw [listOf_set _ _ _ _ (by omega), listOf_set _ _ _ _ (by omega)]
        refine listOf_congr fun p hp => ?_
        rw [← swapG_next g f m k p hlt, ← hva, ← hvb, hbe]
      have hS1 := (hO.set (f + k) vb).set (f + b) va
      rw [hnx] at hS1
      have HS1 := Lib.hid hS1
      have hGs := grown_set (i := f + b) (grown_set (i := f + k) hg (.int .i64 vb)) (.int .i64 va)
      have HGS := Lib.hid hGs
      have gk0 : (0 : Int) ≤ (k : Int) := by omega
      have gk1 : (k : Int) < (m : Int) := by omega
      have gb0 : (0 : Int) ≤ (b : Int) := by omega
      have gb1 : (b : Int) < (m : Int) := by omega
      have gkb : (k : Int) < (b : Int) := by omega
      have hne : f + k ≠ f + b := by omega
      have hne2 : f + b ≠ f + k := by omega
      have hkb1 : k ≠ b := by omega
      have hkb2 : b ≠ k := by omega
      clear ea eb hva hvb hnx hS1 hGs hO hg hbe
      go_wp2_with (fail)
      go_region
      all_goals go_wp2_with (fail)
      go_roundw
      case rel => exact ⟨k + 1, (b : Int) - 1, by go_num, by go_num, by omega, by omega, HS1.out, ⟨HGS.out.os, HGS.out.tape, HGS.out.output, HGS.out.size, HGS.out.block⟩⟩
      case measure => simp [intOf]; omega
    · have hzk : ¬ ((k : Int) < z) := by omega
      rw [listOf_congr (fun p _ => swapG_end g f m k p (by omega) hk2)] at hO
      have HO2 := Lib.hid hO
      have HG := Lib.hid hg
      clear hO hg
      go_wp2_with (fail)
      go_end0
      exact ⟨rfl, HO2.out, HG.out⟩
end
section
set_option linter.unusedVariables false
set_option linter.unusedSimpArgs false
open Go.RowKit

def lvF (ls : List Nat) (i : Nat) : Nat := min (ls.getD i 0) 126
def topF (ls : List Nat) : Nat → Nat
  | 0 => 0
  | i + 1 => max (topF ls i) (lvF ls i)
theorem topF_le (ls : List Nat) : ∀ i, topF ls i ≤ 126
  | 0 => Nat.zero_le _
  | i + 1 => by have := topF_le ls i; rw [topF]; unfold lvF; omega
/-- the order behind d levels from x + 1 up -/
def ordG (ls : List Nat) (n x d p : Nat) : Int := ((oF (lvF ls) n (x + 1) d p : Nat) : Int)
def orderI (ls : List Nat) : List Int := listOf ls.length (ordG ls ls.length 0 (topF ls ls.length))
/-- in the midst of a level: what ends ahead of fr is turned -/
def midG (ls : List Nat) (n x d fr p : Nat) : Int := ordG ls n (x + 1) d (if p < fr then revI (lvF ls) n (x + 1) p else p)
theorem ordG_next (ls : List Nat) (n x d p : Nat) : ordG ls n (x + 1) d (revI (lvF ls) n (x + 1) p) = ordG ls n x (d + 1) p := rfl
theorem midG_zero (ls : List Nat) (n x d p : Nat) : midG ls n x d 0 p = ordG ls n (x + 1) d p := by
  unfold midG; rw [if_neg (Nat.not_lt_zero _)]
theorem midG_end (ls : List Nat) (n x d fr p : Nat) (h : p < n) (hf : n ≤ fr) : midG ls n x d fr p = ordG ls n x (d + 1) p := by
  unfold midG; rw [if_pos (by omega), ordG_next]
theorem midG_turn (ls : List Nat) (n x d fr i p : Nat) (hfi : fr ≤ i) (hin : i ≤ n) (hp : p < n) (hl : fr = 0 ∨ lvF ls (fr - 1) < x + 1) (ha : ∀ q, fr ≤ q → q < i → x + 1 ≤ lvF ls q) (hr : i = n ∨ lvF ls i < x + 1) :
    revG (midG ls n x d fr) fr (i - fr) p = midG ls n x d (i + 1) p := by
  have hs : Str (lvF ls) n (x + 1) fr i := ⟨hfi, hin, ha, hl, hr⟩
  unfold revG
  by_cases h : fr ≤ p ∧ p < fr + (i - fr)
  · rw [if_pos h]
    unfold midG
    rw [if_neg (by omega), if_pos (by omega), rev_str hs h.1 (by omega)]
    congr 1
    omega
  · rw [if_neg h]
    unfold midG
    by_cases h1 : p < fr
    · rw [if_pos h1, if_pos (by omega)]
    · rw [if_neg h1]
      by_cases h2 : p = i
      · rw [if_pos (by omega), rev_out (by rcases hr with h | h <;> (subst h2; omega))]
      · rw [if_neg (by omega)]
def dealN (n i : Nat) (p : Nat) : Int := if p < i then p else 0
def OrdPost (ls : List Nat) (n : Nat) (w : World) (e : Ending) (w' : World) : Prop :=
  e = .returned (.slice (some ⟨w.heap.size, 0, none⟩) n n) ∧ OutAt .i64 3 w' w.heap.size (some ⟨w.heap.size, 0, none⟩) n (orderI ls) ∧ Below w.heap.size w w'
set_option maxRecDepth 100000 in
set_option maxHeartbeats 1000000 in
theorem Order_any (a : Option Addr) (ls : List Nat) (n c : Nat) (w : World) (hl : ls.length = n) (hd : Rd .u8 w a (ints ls)) (hn : n ≤ 2097152) :
    Calls Tryz.prog 52 #[.slice a n c] w (OrdPost ls n w) := by
  obtain ⟨i3, hi3, hz3, ha3, hb3⟩ := info_parts (Tryz.info_int)
  have HL := Lib.hid hl
  have hOI : orderI ls = listOf n (ordG ls n 0 (topF ls n)) := by unfold orderI; rw [hl]
  have HOI := Lib.hid hOI
  have hmk := run_make_row (P := Tryz.prog) 56 3 i3 (.int .i64 0) Tryz.underlying56 hi3 hz3 ha3 rfl .i64 .i64 n (by rw [hb3]; omega) (by omega)
  clear hl hOI
  go_enter Tryz.func52, Tryz.ntmps52
  go_wp2_with (fail)
  refine wp_scope_straight ?_
  go_wp2_with (fail)
  clear hmk
  have hO0 : OutAt .i64 3 (w.alloc (.cells (madeCells #[.int .i64 0] n) 3)) w.heap.size (some ⟨w.heap.size, 0, none⟩) n (listOf n (dealN n 0)) :=
    out_of_row ((World.rowIs_made w (.int .i64 0) n 3).congr fun i hi => by rw [listOf_ith _ _ _ hi]; unfold dealN; rw [if_neg (Nat.not_lt_zero _)]) (listOf_len _ _) (Nat.le_refl _) (by unfold maxLen; omega)
  have hb0 := (Below.refl w.heap.size w).alloc (Nat.le_refl _) (.cells (madeCells #[.int .i64 0] n) 3)
  go_loopw [4, 5, 6, 15] (fun u4 _ _ u wx => ∃ i : Nat, i ≤ n ∧ u = .int .i64 i ∧ u4 = .int .u8 (topF ls i : Nat) ∧ OutAt .i64 3 wx w.heap.size (some ⟨w.heap.size, 0, none⟩) n (listOf n (dealN n i)) ∧ Below w.heap.size w wx) (fun _ _ _ u _ => n - (intOf u).toNat)
  case atStart => exact ⟨0, by omega, rfl, rfl, hO0, hb0⟩
  case round =>
    obtain ⟨i, hi, rfl, rfl, hO, hbel⟩ := hrel
    clear hO0 hb0
    by_cases hlt : i < n
    · obtain ⟨G, o, rfl, hG, hcl⟩ := hd.at hbel i (by rw [ints_len, HL.out]; exact hlt)
      rw [ith_ints] at hcl
      obtain ⟨x, hx⟩ : ∃ x, ls.getD i 0 = x := ⟨_, rfl⟩
      rw [hx] at hcl
      obtain ⟨_, hGe, _, _, hXo, hFo, _, _⟩ := hO.at i (by rw [listOf_len]; exact hlt)
      cases hGe
      generalize ith (listOf n (dealN n i)) i = vo at hXo
      have hS := hO.set i (i : Int)
      have hnx : (listOf n (dealN n i)).set i (i : Int) = listOf n (dealN n (i + 1)) := by
        rw [listOf_set _ _ _ _ hlt]
        refine listOf_congr fun p hp => ?_
        unfold dealN
        by_cases e : p = i
        · rw [if_pos e, if_pos (by omega), e]
        · rw [if_neg e]
          by_cases e2 : p < i
          · rw [if_pos e2, if_pos (by omega)]
          · rw [if_neg e2, if_neg (by omega)]
      rw [hnx] at hS
      obtain ⟨m6, hm6⟩ : ∃ m6, lvF ls i = m6 := ⟨_, rfl⟩
      have hmi : min (x : Int) 126 = (m6 : Int) := by rw [← hm6]; unfold lvF; rw [hx]; omega
      have htn : topF ls (i + 1) = max (topF ls i) m6 := by rw [topF, hm6]
      obtain ⟨tp, htp⟩ : ∃ tp, topF ls i = tp := ⟨_, rfl⟩
      obtain ⟨tq, htq⟩ : ∃ tq, topF ls (i + 1) = tq := ⟨_, rfl⟩
      rw [htp, htq] at htn
      have hmx : max (tp : Int) (m6 : Int) = (tq : Int) := by omega
      have HTQ := Lib.hid htq
      have HS := Lib.hid hS
      have HB := Lib.hid (hbel.setCell (p := ⟨w.heap.size, i, none⟩) (Nat.le_refl _) (.int .i64 (i : Int)))
      have gi0 : (0 : Int) ≤ (i : Int) := by omega
      have gi1 : (i : Int) < (n : Int) := by omega
      rw [htp]
      clear hx hm6 htn htp htq hS hnx hO hbel
      go_wp2_with (fail)
      go_roundw
      case rel => exact ⟨i + 1, by omega, by go_num, by rw [HTQ.out], HS.out, HB.out⟩
      case measure => simp [intOf]; omega
    · have hie : n = i := by omega
      subst hie
      obtain ⟨g, hg⟩ : ∃ g, topF ls n = g := ⟨_, rfl⟩
      have hg6 : g ≤ 126 := by rw [← hg]; exact topF_le ls n
      rw [hg] at HOI ⊢
      have hO1 : OutAt .i64 3 wr w.heap.size (some ⟨w.heap.size, 0, none⟩) n (listOf n (ordG ls n g 0)) := by
        rw [listOf_congr (fun p hp => show ordG ls n g 0 p = dealN n n p by unfold dealN; rw [if_pos hp]; rfl)]
        exact hO
      have HO1 := Lib.hid hO1
      have HB1 := Lib.hid hbel
      clear hO hg hO1 hbel hi hlt
      go_wp2_with (fail)
      refine wp_label ?_
      go_wp2_with (fail)
      go_loopw [7, 8, 9, 37] (fun u7 _ _ _ wx => ∃ x d : Nat, u7 = .int .u8 x ∧ x + d = g ∧ OutAt .i64 3 wx w.heap.size (some ⟨w.heap.size, 0, none⟩) n (listOf n (ordG ls n x d)) ∧ Below w.heap.size w wx) (fun u7 _ _ _ _ => (intOf u7).toNat)
      case atStart => exact ⟨g, 0, rfl, by omega, HO1.out, HB1.out⟩
      case round =>
        obtain ⟨x, d, rfl, hxd, hO, hbel⟩ := hrel
        clear HO1 HB1
        cases x with
        | zero =>
          have hdg : d = g := by omega
          rw [hdg, ← HOI.out] at hO
          clear hxd hdg
          go_wp2_with (fail)
          unfold Exit.noGoto
          go_ret
          exact ⟨rfl, hO, hbel⟩
        | succ x =>
          obtain ⟨X, hX⟩ : ∃ X, x + 1 = X := ⟨_, rfl⟩
          rw [hX] at hO ⊢
          have hX0 : ((X : Int) == 0) = false := by rw [beq_eq_false_iff_ne]; omega
          have hX6 : X ≤ 126 := by omega
          have hO1 : OutAt .i64 3 wr w.heap.size (some ⟨w.heap.size, 0, none⟩) n (listOf n (midG ls n x d 0)) := by
            rw [listOf_congr (fun p _ => midG_zero ls n x d p), hX]; exact hO
          have HX := Lib.hid hX
          have HOA := Lib.hid hO1
          have HBA := Lib.hid hbel
          clear hO hO1 hbel
          go_wp2_with (fail)
          go_loopw [8, 9, 37] (fun u8 _ u wx => ∃ i fr : Nat, u = .int .i64 i ∧ u8 = .int .i64 fr ∧ i ≤ n + 1 ∧ fr ≤ i ∧ (i = n + 1 → fr = n + 1) ∧ (fr = 0 ∨ lvF ls (fr - 1) < x + 1 ∨ fr = n + 1) ∧ (∀ q, fr ≤ q → q < i → q < n → x + 1 ≤ lvF ls q) ∧ OutAt .i64 3 wx w.heap.size (some ⟨w.heap.size, 0, none⟩) n (listOf n (midG ls n x d fr)) ∧ Below w.heap.size w wx) (fun _ _ u _ => n + 1 - (intOf u).toNat)
          case atStart => exact ⟨0, 0, rfl, rfl, by omega, by omega, fun h => by omega, .inl rfl, fun q _ h => by omega, HOA.out, HBA.out⟩
          case round =>
            obtain ⟨i, fr, rfl, rfl, hi, hfi, hend, hlf, hal, hO, hbel⟩ := hrel
            clear HOA HBA
            by_cases hin1 : i = n + 1
            · have hfe := hend hin1
              have hO2 : OutAt .i64 3 wr w.heap.size (some ⟨w.heap.size, 0, none⟩) n (listOf n (ordG ls n x (d + 1))) := by
                rw [← listOf_congr (fun p hp => midG_end ls n x d fr p hp (by omega))]; exact hO
              have HO2 := Lib.hid hO2
              have HB2 := Lib.hid hbel
              clear hO hO2 hbel hal hlf hend hfi hfe
              subst hin1
              have hX1 : (X : Int) - 1 = x := by have := HX.out; omega
              go_wp2_with (fail)
              go_roundw
              case rel => exact ⟨x, d + 1, by first | rfl | rw [hX1], by omega, HO2.out, HB2.out⟩
              case measure => simp [intOf]; omega
            · have HO := Lib.hid hO
              have HBE := Lib.hid hbel
              have HAL := hal
              have HLF : fr = 0 ∨ lvF ls (fr - 1) < x + 1 := by
                rcases hlf with h | h | h
                · exact .inl h
                · exact .inr h
                · omega
              by_cases hlt : i < n
              · have hmid : midG ls n x d fr i = ((oF (lvF ls) n (x + 1 + 1) d i : Nat) : Int) := by unfold midG; rw [if_neg (by omega)]; rfl
                obtain ⟨k, hk⟩ : ∃ k, oF (lvF ls) n (x + 1 + 1) d i = k := ⟨_, rfl⟩
                have hkn : k < n := by rw [← hk]; exact oF_lt d (x + 1 + 1) i hlt
                have hkl : (x + 1 ≤ lvF ls k) ↔ x + 1 ≤ lvF ls i := by rw [← hk]; exact oF_lv d (x + 1 + 1) i (by omega)
                rw [hk] at hmid
                obtain ⟨_, hGe, _, _, hXo, _, _, _⟩ := hO.at i (by rw [listOf_len]; exact hlt)
                cases hGe
                rw [listOf_ith _ _ _ hlt, hmid] at hXo
                obtain ⟨G, o, rfl, hG, hcl⟩ := hd.at hbel k (by rw [ints_len, HL.out]; exact hkn)
                rw [ith_ints] at hcl
                obtain ⟨lk, hlk⟩ : ∃ lk, ls.getD k 0 = lk := ⟨_, rfl⟩
                rw [hlk] at hcl
                have hlx : (x + 1 ≤ lk) ↔ x + 1 ≤ lvF ls i := by
                  rw [← hkl]; unfold lvF; rw [hlk]; omega
                have gi0 : (0 : Int) ≤ (i : Int) := by omega
                have gi1 : (i : Int) < (n : Int) := by omega
                have gk0 : (0 : Int) ≤ (k : Int) := by omega
                have gk1 : (k : Int) < (n : Int) := by omega
                clear hO hbel hmid hk hkl hlk hal hlf
                by_cases hge : x + 1 ≤ lk
                · have hai := hlx.1 hge
                  have hgi : (X : Int) ≤ (lk : Int) := by have := HX.out; omega
                  clear hlx
                  go_wp2_with (fail)
                  go_roundw
                  case rel => exact ⟨i + 1, fr, by go_num, rfl, by omega, by omega, fun h => by omega, HLF.imp id .inl, fun q h1 h2 h3 => by
                    rcases Nat.lt_or_ge q i with h | h
                    · exact HAL q h1 h h3
                    · obtain rfl : q = i := by omega
                      exact hai, HO.out, HBE.out⟩
                  case measure => simp [intOf]; omega
                · have HRR0 : lvF ls i < x + 1 := by
                    rcases Nat.lt_or_ge (lvF ls i) (x + 1) with h | h
                    · exact h
                    · exact absurd (hlx.2 h) hge
                  have HR : i = n ∨ lvF ls i < x + 1 := .inr HRR0
                  have HRR : lvF ls i < x + 1 ∨ i + 1 = n + 1 := .inl HRR0
                  have hgi : ¬ (X : Int) ≤ (lk : Int) := by have := HX.out; omega
                  have gf0 : (0 : Int) ≤ (fr : Int) := by omega
                  have gf1 : (fr : Int) ≤ (i : Int) := by omega
                  have gf2 : (i : Int) ≤ (n : Int) := by omega
                  clear hlx hge hend
                  by_cases hnf : n = fr
                  · exact absurd hnf (by omega)
                  · have HTU := Lib.hid (turn_any w.heap.size fr (i - fr) (n - fr) w.heap.size n n (midG ls n x d fr) wr HO.out (by omega) hn (by omega))
                    rw [listOf_congr (fun p hp => midG_turn ls n x d fr i p hfi (by omega) hp HLF (fun q h1 h2 => HAL q h1 h2 (by omega)) HR)] at HTU
                    go_wp2_with (go_at_call 82; refine HTU.out.mono ?_; rintro e w2 ⟨rfl, hO2, hg2⟩)
                    have hbb : Below w.heap.size w w2 := HBE.out.grown hg2 HBE.out.size (fun k hk => by cases hk; exact Nat.le_refl _)
                    go_roundw
                    case rel => exact ⟨i + 1, i + 1, by go_num, by go_num, by omega, Nat.le_refl _, fun _ => by omega, .inr (by rw [Nat.add_sub_cancel]; exact HRR), fun q h1 h2 => by omega, hO2, hbb⟩
                    case measure => simp [intOf]; omega
              · have hie : i = n := by omega
                have HR : i = n ∨ lvF ls i < x + 1 := .inl hie
                have HRR : lvF ls i < x + 1 ∨ i + 1 = n + 1 := .inr (by omega)
                have gf0 : (0 : Int) ≤ (fr : Int) := by omega
                have gf1 : (fr : Int) ≤ (n : Int) := by omega
                have hie' : n = i := hie.symm
                have hni : ¬ (i : Int) < (n : Int) := by omega
                clear hO hbel hal hlf hend hlt
                subst hie'
                clear hni hie
                by_cases hnf : n = fr
                · have hO2 := HO.out
                  rw [listOf_congr (fun p hp => show midG ls n x d fr p = midG ls n x d (n + 1) p by rw [midG_end ls n x d fr p hp (by omega), midG_end ls n x d (n + 1) p hp (by omega)])] at hO2
                  have HO2 := Lib.hid hO2
                  clear hO2
                  subst hnf
                  go_wp2_with (go_at_call 82; refine (turn_nil _ _ _).mono ?_; rintro e w2 ⟨rfl, hw2⟩; subst hw2)
                  go_roundw
                  case rel => exact ⟨n + 1, n + 1, by go_num, by go_num, by omega, Nat.le_refl _, fun _ => by omega, .inr (.inr (by omega)), fun q h1 h2 => by omega, HO2.out, HBE.out⟩
                  case measure => first | (simp [intOf]; done) | (simp [intOf]; omega)
                · have HTU := Lib.hid (turn_any w.heap.size fr (n - fr) (n - fr) w.heap.size n n (midG ls n x d fr) wr HO.out (by omega) hn (by omega))
                  rw [listOf_congr (fun p hp => midG_turn ls n x d fr n p hfi (by omega) hp HLF (fun q h1 h2 => HAL q h1 h2 (by omega)) HR)] at HTU
                  go_wp2_with (go_at_call 82; refine HTU.out.mono ?_; rintro e w2 ⟨rfl, hO2, hg2⟩)
                  have hbb : Below w.heap.size w w2 := HBE.out.grown hg2 HBE.out.size (fun k hk => by cases hk; exact Nat.le_refl _)
                  go_roundw
                  case rel => exact ⟨n + 1, n + 1, by go_num, by go_num, by omega, Nat.le_refl _, fun _ => by omega, .inr (.inr (by omega)), fun q h1 h2 => by omega, hO2, hbb⟩
                  case measure => first | (simp [intOf]; done) | (simp [intOf]; omega)
end
end Go.Proofs.YtlbclfmbejjneaaGreatDoor
