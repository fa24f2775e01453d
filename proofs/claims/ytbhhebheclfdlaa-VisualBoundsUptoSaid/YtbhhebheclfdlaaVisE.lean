/- Contract of visual.Row: a row's levels, in a list of its own. -/
import Derived.Test.YtbhhebheclfdlaaVisD
namespace Go.Proofs.Ytbhhebheclfdlaa
set_option linter.unusedVariables false
set_option linter.unusedSimpArgs false
open Go.RowKit

set_option maxRecDepth 100000 in
set_option maxHeartbeats 400000 in
theorem ClU_any (a : Option Addr) (c L : Nat) (l : List Int) (w : World) (hl : l.length = L) (hd : Rd .u8 w a l) (hn : L ≤ 2097152) (hnil : a = none → c = 0) :
    Calls Try.prog 31 #[.slice a L c] w fun e w' => ∃ a c', e = .returned (.slice a L c') ∧ OutAt .u8 5 w' w.heap.size a c' l ∧ Below w.heap.size w w' := by
  obtain ⟨i3, hi3, hz3, ha3, hb3⟩ := info_parts (Try.info_u8)
  have q22 : ∀ (w : World) (a : Option Addr) (n c n' c' : Nat), (binOp .eql 23 (.slice a n c) (.slice none n' c')).run Try.prog w = .ok (.bool a.isNone) w := fun w a n c n' c' => Lib.run_eql_slice_nil w _ _ a n c n' c' Try.underlying23
  have HL := Lib.hid hl
  cases a with
  | none =>
    have hl0 : l = [] := by
      rcases hd with h | ⟨_, _, e, _⟩
      · exact h
      · cases e
    have h0 : L = 0 := by rw [← hl, hl0]; rfl
    subst hl0 h0
    clear hl hd
    go_enter Try.func31, Try.ntmps31
    go_wp2_with (fail)
    go_ret
    exact ⟨none, 0, rfl, World.ownsRow_nil _ _ _ _, Below.refl _ _⟩
  | some ad =>
    have hcells : ∀ j u, (l.map (Value.int .u8))[j]? = some u → (w.alloc (.cells #[] 5)).cell? (ad.add j) = some u := fun j u hj => by
      have hjl : j < l.length := by
        rcases Nat.lt_or_ge j l.length with h | h
        · exact h
        · rw [List.getElem?_eq_none (by rw [List.length_map]; exact h)] at hj; cases hj
      obtain ⟨b, off, e, hb, hc⟩ := hd.at ((Below.refl w.heap.size w).alloc (Nat.le_refl _) (.cells #[] 5)) j hjl
      cases e
      rw [List.getElem?_map, ith_get hjl] at hj
      cases hj
      rw [Addr.add_lit, hc]
    have HC := Lib.hid hcells
    clear hcells hl hd
    go_enter Try.func31, Try.ntmps31
    go_wp2_with (at_builtin; refine wpList_append_own _ rfl _ _ 23 rfl w.heap.size 5 i3 (.int .u8 0) 1 1 Try.underlying23 hi3 hz3 ha3 hb3 rfl (by decide) _ _ _ rfl (World.ownsRow_made w #[] 0 (Nat.le_refl _) (Nat.zero_le _) (by simp)) ad L c (l.map (Value.int .u8)) rfl (by rw [List.length_map, HL.out]; omega) HC.out (fun u hu => by rw [List.mem_map] at hu; obtain ⟨x, _, rfl⟩ := hu; rfl) (by unfold maxLen; omega) (by omega) (by simp) ?_; intro v' w' ho hg _)
    obtain ⟨va, vc, hva, _, _⟩ := own_slice ho
    subst hva
    go_ret
    rw [Nat.zero_add, List.nil_append] at ho
    refine ⟨va, vc, by rw [Nat.zero_add]; rfl, ?_, ((Below.refl w.heap.size w).alloc (Nat.le_refl _) _).grown hg (by simp) (fun k hk => by cases hk; exact Nat.le_refl _)⟩
    unfold OutAt
    rw [HL.out]
    exact ho
def RowPost (R : Option (List Nat)) (w : World) (e' : Ending) (w' : World) : Prop :=
  Below w.heap.size w w' ∧ match R with
    | none => e' = .returned (.slice none 0 0)
    | some l => ∃ a c, e' = .returned (.slice a l.length c) ∧ OutAt .u8 5 w' w.heap.size a c (ints l)
theorem hangF_len (cs : List Int) (base fr : Nat) : ∀ (i : Nat) (h : Bool) (out : List Nat), (hangF cs base fr i h out).length = out.length
  | 0, h, out => rfl
  | i + 1, h, out => by
    rw [hangF, hangF_len cs base fr i]
    split <;> simp
theorem ints_take (l : List Nat) (k : Nat) : ints (l.take k) = (ints l).take k := by unfold ints; rw [List.map_take]
theorem ints_drop (l : List Nat) (k : Nat) : ints (l.drop k) = (ints l).drop k := by unfold ints; rw [List.map_drop]
set_option maxRecDepth 100000 in
set_option maxHeartbeats 1000000 in
theorem Row_any (a la : Option Addr) (cs : List Int) (ls : List Nat) (n1 n2 c lc base : Nat) (fr tt : Int) (w : World) (h1 : cs.length = n1) (h2 : ls.length = n2) (hc : Rd .i32 w a cs) (hls : Rd .u8 w la (ints ls)) (hn1 : n1 ≤ 2097152) (hn2 : n2 ≤ 2097152)
    (hlc : n2 ≤ lc) (hcm : lc ≤ 9223372036854775807) (hla : (la = none ∧ lc = 0) ∨ ∃ G o, la = some ⟨G, o, none⟩) :
    Calls Try.prog 13 #[.slice a n1 c, .slice la n2 lc, .int .u8 base, .int .i64 fr, .int .i64 tt] w (RowPost (rowI cs ls base fr tt) w) := by
  obtain ⟨M, hM⟩ : ∃ M, min n1 n2 = M := ⟨_, rfl⟩
  obtain ⟨F, hF⟩ : ∃ F, clampN M fr = F := ⟨_, rfl⟩
  obtain ⟨T, hT⟩ : ∃ T, clampN M tt = T := ⟨_, rfl⟩
  obtain ⟨B6, hB6⟩ : ∃ B6, min base 126 = B6 := ⟨_, rfl⟩
  have hR : rowI cs ls base fr tt = if T < F then none else some (hangF cs B6 F (T - F) true ((ls.drop F).take (T - F))) := by
    unfold rowI
    simp only [h1, h2, hM, hF, hT, hB6]
  rw [hR]
  have eM : min (n1 : Int) (n2 : Int) = (M : Int) := by omega
  have eF : min (max fr 0) (M : Int) = (F : Int) := by rw [← hF]; unfold clampN; omega
  have eT : min (max tt 0) (M : Int) = (T : Int) := by rw [← hT]; unfold clampN; omega
  have eB : min (base : Int) 126 = (B6 : Int) := by omega
  have hFM : F ≤ M := by rw [← hF]; unfold clampN; omega
  have hTM : T ≤ M := by rw [← hT]; unfold clampN; omega
  have H1 := Lib.hid h1
  have H2 := Lib.hid h2
  clear hM hF hT hB6 hR h1 h2
  by_cases hTF : T < F
  · rw [if_pos hTF]
    have ht : (T : Int) < (F : Int) := by omega
    go_enter Try.func13, Try.ntmps13
    go_wp2_with (fail)
    go_ret
    exact ⟨Below.refl _ _, rfl⟩
  · rw [if_neg hTF]
    obtain ⟨K, hK⟩ : ∃ K, T - F = K := ⟨_, rfl⟩
    rw [hK]
    obtain ⟨l0, hl0⟩ : ∃ l0, (ls.drop F).take K = l0 := ⟨_, rfl⟩
    rw [hl0]
    have hl0l : l0.length = K := by rw [← hl0, List.length_take, List.length_drop]; have := H2.out; omega
    obtain ⟨FIN, hFIN⟩ : ∃ FIN, hangF cs B6 F K true l0 = FIN := ⟨_, rfl⟩
    rw [hFIN]
    have hfl : FIN.length = K := by rw [← hFIN, hangF_len, hl0l]
    have HFL := Lib.hid hfl
    have HFIN := Lib.hid hFIN
    have HK := Lib.hid hK
    have HL0 := Lib.hid hl0l
    have ht : ¬ (T : Int) < (F : Int) := by omega
    have ht2 : (F : Int) ≤ (T : Int) := by omega
    have gF0 : (0 : Int) ≤ (F : Int) := by omega
    have gT1 : (T : Int) ≤ (lc : Int) := by omega
    have gT0 : (0 : Int) ≤ (T : Int) := by omega
    have hcl : ∀ ad c', (ad = la ∧ (F = 0 ∨ K = 0) ∨ ∃ G o, la = some ⟨G, o, none⟩ ∧ ad = some ⟨G, o + F, none⟩) → (ad = none → c' = 0) →
        Calls Try.prog 31 #[.slice ad K c'] w fun e w' => ∃ a c', e = .returned (.slice a K c') ∧ OutAt .u8 5 w' w.heap.size a c' (ints l0) ∧ Below w.heap.size w w' := fun ad c' had hnil => by
      refine ClU_any ad c' K (ints l0) w (by rw [ints_len]; exact hl0l) ?_ (by omega) hnil
      rcases had with ⟨rfl, h | h⟩ | ⟨G, o, e, rfl⟩
      · subst h
        rw [← hl0, List.drop_zero, ints_take]
        exact rd_take hls K
      · exact .inl (List.eq_nil_of_length_eq_zero (by rw [ints_len, hl0l]; exact h))
      · rw [e] at hls
        rw [← hl0, ints_take, ints_drop]
        exact rd_take (rd_drop hls F) K
    have HCL := Lib.hid hcl
    clear hfl hFIN hK hl0 hl0l hcl hTF
    go_enter Try.func13, Try.ntmps13
    go_upto_region 5 with (fail)
    go_cut [12] (fun v wx => ∃ oa oc, v = .slice oa K oc ∧ OutAt .u8 5 wx w.heap.size oa oc (ints l0) ∧ Below w.heap.size w wx)
    case first =>
      rcases hla with ⟨rfl, rfl⟩ | ⟨G, o, rfl⟩
      · have hT0 : T = 0 := by omega
        have hF0 : F = 0 := by omega
        have hK0 : K = 0 := by have := HK.out; omega
        subst hT0 hF0 hK0
        have hcal := HCL.out none 0 (.inl ⟨rfl, .inl rfl⟩) (fun _ => rfl)
        go_wp2_with (go_at_call 31; refine hcal.mono ?_; rintro e w1 ⟨oa, oc, rfl, hO1, hb1⟩)
        go_meet
        exact ⟨oa, oc, rfl, hO1, hb1⟩
      · have hKi : T - F = K := HK.out
        by_cases hcF : lc = F
        · have hK0 : K = 0 := by omega
          have hTF2 : T = F := by omega
          subst hK0 hTF2
          subst hcF
          have hcal := HCL.out (some ⟨G, o, none⟩) 0 (.inl ⟨rfl, .inr rfl⟩) (fun e => by cases e)
          clear hKi
          go_wp2_with (go_at_call 31; refine hcal.mono ?_; rintro e w1 ⟨oa, oc, rfl, hO1, hb1⟩)
          go_meet
          exact ⟨oa, oc, rfl, hO1, hb1⟩
        · have hcal := HCL.out (some ⟨G, o + F, none⟩) (lc - F) (.inr ⟨G, o, rfl, rfl⟩) (fun e => by cases e)
          rw [← hKi] at hcal
          have HKI := Lib.hid hKi
          clear hKi
          go_wp2_with (go_at_call 31; refine hcal.mono ?_; rintro e w1 ⟨oa, oc, rfl, hO1, hb1⟩)
          go_meet
          exact ⟨oa, oc, by rw [HKI.out], hO1, hb1⟩
    case rest =>
      obtain ⟨oa, oc, rfl, hO1, hb1⟩ := hcut
      have hK2 : K ≤ n1 := by have := HK.out; omega
      have hFK : F + K ≤ n1 := by have := HK.out; omega
      clear hFM hTM ht ht2 gT0 gT1 HCL eM eF eT
      go_wp2_with (fail)
      go_loopw [13, 14] (fun u13 u14 wx => ∃ (k : Nat) (z : Int) (h : Bool) (out : List Nat), u13 = .bool h ∧ u14 = .int .i64 z ∧ z + 1 = k ∧ k ≤ K ∧ OutAt .u8 5 wx w.heap.size oa oc (ints out) ∧ out.length = K ∧ Below w.heap.size w wx ∧ hangF cs B6 F k h out = FIN) (fun _ c _ => (intOf c + 1).toNat)
      case atStart => exact ⟨K, (K : Int) - 1, true, l0, rfl, by go_num, by omega, Nat.le_refl _, hO1, HL0.out, hb1, HFIN.out⟩
      case round =>
        obtain ⟨k, z, h, out, rfl, rfl, hzk, hkK, hO, hol, hbel, hF⟩ := hrel
        clear hO1 hb1
        cases k with
        | zero =>
          have hz : z = -1 := by omega
          subst hz
          rw [hangF] at hF
          have HF := Lib.hid hF
          have HOL := Lib.hid hol
          have HO := Lib.hid hO
          clear hF hol hzk hO
          go_wp2_with (fail)
          go_ret
          refine ⟨hbel, ?_⟩
          have e := HF.out
          subst e
          exact ⟨oa, oc, by rw [HOL.out]; rfl, HO.out⟩
        | succ k =>
          have hz : z = (k : Int) := by omega
          subst hz
          obtain ⟨G, hG, _, hGl, hXo, hFo, _, _⟩ := hO.at k (by rw [ints_len, hol]; omega)
          subst hG
          obtain ⟨Gc, co, rfl, hGc, hcc⟩ := hc.at hbel (F + k) (by rw [H1.out]; omega)
          obtain ⟨x, hx⟩ : ∃ x, out.getD k 0 = x := ⟨_, rfl⟩
          rw [ith_ints, hx] at hXo
          obtain ⟨y, hy⟩ : ∃ y, ith cs (F + k) = y := ⟨_, rfl⟩
          rw [hy] at hcc
          rw [hangF, hy, hx] at hF
          obtain ⟨m6, hm6⟩ : ∃ m6, min x 126 = m6 := ⟨_, rfl⟩
          rw [hm6] at hF
          have hmi : min (x : Int) 126 = (m6 : Int) := by omega
          obtain ⟨d, hd⟩ : ∃ d, dirI y = d := ⟨_, rfl⟩
          rw [hd] at hF
          obtain ⟨hh, hhh⟩ : ∃ hh, hangsF d h = hh := ⟨_, rfl⟩
          rw [hhh] at hF
          have HF := Lib.hid hF
          have HO := Lib.hid hO
          have HOL := Lib.hid hol
          have HBE := Lib.hid hbel
          have HH : Hid (hh = if d = 11 ∨ d = 10 then true else if d ≠ 12 ∧ leftB d = false ∧ (d < 19 ∨ 22 < d) then false else h) := Lib.hid hhh.symm
          have hDir : Hid (∀ W, Calls Try.prog 26 #[.int .i32 y] W fun e w' => e = .returned (.int .i8 d) ∧ Below W.heap.size W w') := Lib.hid fun W => by rw [← hd]; exact Dir_any y W
          have gk0 : (0 : Int) ≤ (k : Int) := by omega
          have gk1 : (k : Int) < (K : Int) := by omega
          have gfk : (F : Int) + (k : Int) < (n1 : Int) := by omega
          clear hF hO hol hbel hx hy hm6 hd hhh hzk
          go_upto_region 12 with (fail)
          have hO2 : OutAt .u8 5 (wr.setCell ⟨G, k, none⟩ (.int .u8 (m6 : Nat))) w.heap.size (some ⟨G, 0, none⟩) oc (ints (out.set k m6)) := by rw [ints_set]; exact HO.out.set k m6
          have hb2 : Below w.heap.size w (wr.setCell ⟨G, k, none⟩ (.int .u8 (m6 : Nat))) := HBE.out.setCell (p := ⟨G, k, none⟩) (by exact (HO.out.lt).1) _
          have hcc2 : (wr.setCell ⟨G, k, none⟩ (.int .u8 (m6 : Nat))).cell? ⟨Gc, co + (F + k), none⟩ = some (.int .i32 y) := (World.cell?_of_block (a := ⟨Gc, co + (F + k), none⟩) (heap_setCell_other wr ⟨G, k, none⟩ Gc _ (by show Gc ≠ G; have := (HO.out.lt).1; omega))).trans hcc
          obtain ⟨w2, hw2⟩ : ∃ w2, w2 = wr.setCell ⟨G, k, none⟩ (.int .u8 (m6 : Nat)) := ⟨_, rfl⟩
          rw [← hw2] at hO2 hb2 hcc2 ⊢
          have hGl2 : G < w2.heap.size := hO2.lt.2
          have HO2 := Lib.hid hO2
          have HB2 := Lib.hid hb2
          obtain ⟨_, hGe, _, _, hXk, hFk, _, _⟩ := hO2.at k (by rw [ints_len, List.length_set, HOL.out]; omega)
          cases hGe
          generalize ith (ints (out.set k m6)) k = vv at hXk
          clear hO2 hb2 hw2 hXo hFo hcc hmi hGl
          go_upto_block 2 with (go_at_call 26; refine (hDir.out _).mono ?_; rintro e w3 ⟨rfl, hw3⟩; have hX3 := (hw3.cell (p := ⟨G, k, none⟩) hGl2).trans hXk; have hF3 := (hw3.frozen (p := ⟨G, k, none⟩) hGl2).trans hFk; have HW3 := Lib.hid hw3; clear hw3)
          go_cut [13] (fun v wx => v = .bool hh ∧ wx = w3)
          case first =>
            obtain ⟨lb, hlb⟩ : ∃ lb, leftB d = lb := ⟨_, rfl⟩
            have HLB : Hid (∀ W, Calls Try.prog 32 #[.int .i8 d] W fun e w' => e = .returned (.bool lb) ∧ W = w') := Lib.hid fun W => by rw [← hlb]; exact vleft_any d W
            have HH2 := HH
            rw [hlb] at HH2
            clear hlb hX3 hF3
            by_cases h11 : d = 11
            · subst h11
              have HE := Lib.hid (HH2.out.trans (if_pos (.inl rfl)))
              go_wp2_with (fail)
              go_meet
              exact ⟨by rw [HE.out], rfl⟩
            · by_cases h10 : d = 10
              · subst h10
                have HE := Lib.hid (HH2.out.trans (if_pos (.inr rfl)))
                go_wp2_with (fail)
                go_meet
                exact ⟨by rw [HE.out], rfl⟩
              · have e := HH2.out.trans (if_neg (by omega))
                have c11 : (d == 11) = false := by simpa using h11
                have c10 : (d == 10) = false := by simpa using h10
                by_cases h12 : d = 12
                · subst h12
                  have HE := Lib.hid (e.trans (if_neg (fun h => h.1 rfl)))
                  clear e
                  go_wp2_with (fail)
                  go_meet
                  exact ⟨by rw [HE.out], rfl⟩
                · have c12 : (d == 12) = false := by simpa using h12
                  have c12' : (d != 12) = true := by simpa using h12
                  cases lb with
                  | true =>
                    have HE := Lib.hid (e.trans (if_neg (fun h => by have := h.2.1; simp at this)))
                    clear e h10 h11 h12
                    go_wp2_with (go_at_call 32; refine (HLB.out _).mono ?_; rintro e w' ⟨rfl, hw'⟩; subst hw')
                    go_meet
                    exact ⟨by rw [HE.out], rfl⟩
                  | false =>
                    by_cases h19 : d < 19
                    · have HE := Lib.hid (e.trans (if_pos ⟨h12, rfl, .inl h19⟩))
                      clear e h10 h11 h12
                      go_wp2_with (go_at_call 32; refine (HLB.out _).mono ?_; rintro e w' ⟨rfl, hw'⟩; subst hw')
                      go_meet
                      exact ⟨by rw [HE.out], rfl⟩
                    · by_cases h22 : 22 < d
                      · have HE := Lib.hid (e.trans (if_pos ⟨h12, rfl, .inr h22⟩))
                        clear e h10 h11 h12
                        go_wp2_with (go_at_call 32; refine (HLB.out _).mono ?_; rintro e w' ⟨rfl, hw'⟩; subst hw')
                        go_meet
                        exact ⟨by rw [HE.out], rfl⟩
                      · have HE := Lib.hid (e.trans (if_neg (fun h => by have := h.2.2; omega)))
                        clear e h10 h11 h12
                        go_wp2_with (go_at_call 32; refine (HLB.out _).mono ?_; rintro e w' ⟨rfl, hw'⟩; subst hw')
                        go_meet
                        exact ⟨by rw [HE.out], rfl⟩
          case rest =>
            obtain ⟨rfl, hwx⟩ := hcut
            have hwx' := hwx.symm
            clear hwx
            subst hwx'
            have hO3 := HO2.out.keep HW3.out
            have hS3 := hO3.set k B6
            rw [← ints_set] at hS3
            have HO3 := Lib.hid hO3
            have HS3 := Lib.hid hS3
            have HB3 : Hid (Below w.heap.size w w3) := Lib.hid (HB2.out.trans (HW3.out.mono HB2.out.size))
            clear hO3 hS3
            cases hh with
            | true =>
              go_wp2_with (fail)
              go_roundw
              case rel => exact ⟨k, (k : Int) - 1, true, _, rfl, by go_num, by omega, by omega, HS3.out, by rw [List.length_set, List.length_set]; exact HOL.out, HB3.out.setCell (p := ⟨G, k, none⟩) (by exact (HO.out.lt).1) _, by have := HF.out; rwa [if_pos (by first | rfl | trivial)] at this⟩
              case measure => simp [intOf]
            | false =>
              go_wp2_with (fail)
              go_roundw
              case rel => exact ⟨k, (k : Int) - 1, false, _, rfl, by go_num, by omega, by omega, HO3.out, by rw [List.length_set]; exact HOL.out, HB3.out, by have := HF.out; rwa [if_neg (by simp)] at this⟩
              case measure => simp [intOf]
end Go.Proofs.Ytbhhebheclfdlaa
