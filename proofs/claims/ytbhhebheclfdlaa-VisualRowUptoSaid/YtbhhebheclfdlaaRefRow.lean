/- Contracts of the document's answer for a row's levels: shuttleref10.dirs, shuttleref07.Out, shuttleref10.Row. -/
import Derived.Test.YtbhhebheclfdlaaRefDir
import Derived.Test.YtbhhebheclfdlaaOwn
namespace Go.Proofs.Ytbhhebheclfdlaa
set_option linter.unusedVariables false
set_option linter.unusedSimpArgs false
open Go.RowKit

theorem RefOut_any (d : Int) (w : World) : Calls Try.prog 30 #[.int .i8 d] w fun e w' => e = .returned (.bool (leftB d)) ∧ w = w' := by
  go_enter Try.func30, Try.ntmps30
  go_wp2_with (fail)
  all_goals (go_ret; refine ⟨ret_b ?_, rfl⟩; unfold leftB; rw [Bool.eq_iff_iff]; simp; try omega)
theorem map_snoc {f : Int → Int} {l : List Int} {i : Nat} (h : i < l.length) : (l.take (i + 1)).map f = (l.take i).map f ++ [f (ith l i)] := by
  rw [List.take_succ_eq_append_getElem h, List.map_append]
  unfold ith
  rw [List.getD_eq_getElem?_getD, List.getElem?_eq_getElem h]
  rfl
theorem Try.info_i8' : (Try.prog.info? 40).map (fun i => (i.zero, i.size, i.bytes)) = some (some (.int .i8 0), 1, 1) := by kernel_rfl
set_option maxHeartbeats 1000000 in
theorem RefDirs_any (a : Option Addr) (cs : List Int) (n c : Nat) (w : World) (hl : cs.length = n) (hd : Rd .i32 w a cs) (hn : n ≤ 2097152) :
    Calls Try.prog 29 #[.slice a n c] w fun e w' => Below w.heap.size w w' ∧ ∃ a c, e = .returned (.slice a n c) ∧ OutAt .i8 40 w' w.heap.size a c (cs.map dirI) := by
  obtain ⟨i3, hi3, hz3, ha3, hb3⟩ := info_parts (Try.info_i8')
  have HL := Lib.hid hl
  clear hl
  go_enter Try.func29, Try.ntmps29
  go_wp2_with (fail)
  go_loopw [3, 4] (fun u3 u wx => ∃ i : Nat, i ≤ n ∧ u = .int .i64 i ∧ wx.ownsRow w.heap.size 40 1 u3 i (((cs.take i).map dirI).map (Value.int .i8)) ∧ Below w.heap.size w wx) (fun _ u _ => n - (intOf u).toNat)
  case atStart => exact ⟨0, by omega, rfl, World.ownsRow_nil _ _ _ _, Below.refl _ _⟩
  case round =>
    obtain ⟨i, hi, rfl, hO, hbel⟩ := hrel
    by_cases hlt : i < n
    · have hsz := hbel.size
      obtain ⟨G, o, rfl, hG, hcl⟩ := hd.at hbel i (by rw [HL.out]; exact hlt)
      have hsn := Lib.hid (map_snoc (f := dirI) (l := cs) (i := i) (by rw [HL.out]; exact hlt))
      obtain ⟨y, hy⟩ : ∃ y, ith cs i = y := ⟨_, rfl⟩
      rw [hy] at hcl hsn
      obtain ⟨d, hdy⟩ : ∃ d, dirI y = d := ⟨_, rfl⟩
      have hDir : Hid (∀ W, Calls Try.prog 43 #[.int .i32 y] W fun e w' => e = .returned (.int .i8 d) ∧ W = w') := Lib.hid fun W => (RefDir_any y W).mono fun e w' h => ⟨by rw [← hdy]; exact h.1, h.2.symm⟩
      rw [hdy] at hsn
      have g0 : (0 : Int) ≤ (i : Int) := by omega
      have g1 : (i : Int) < (n : Int) := by omega
      clear hy hdy
      go_wp2_with (first
        | (go_at_call 43; refine (hDir.out _).mono ?_; rintro e w2 ⟨rfl, hw2⟩; subst hw2)
        | (at_builtin; refine wpList_append_own _ rfl (.tmp 11) (.tmp 17) 52 rfl w.heap.size 40 i3 _ 1 1 Try.underlying52 hi3 hz3 ha3 hb3 rfl (by omega) _ i _ rfl (hO.alloc _) ⟨wr.heap.size, 0, none⟩ 1 1 [.int .i8 d] rfl rfl (World.news_of_block (cs := #[.int .i8 d]) (t := 40) (fr := (0, 0)) (heap_alloc_new _ _)) (by simp [Value.oneCell']) (by unfold maxLen; omega) (by omega) (by simp; omega) ?_; intro v7 w7 hown7 hg7 _))
      have hb7 := (hbel.alloc hsz (.cells #[.int .i8 d] 40)).grown hg7 (by simp; omega) (fun k hk => (hO.lt k hk).1)
      go_roundw
      case rel => exact ⟨i + 1, by omega, by go_num, by rw [hsn.out, List.map_append]; exact hown7, hb7⟩
      case measure => simp [intOf]; omega
    · obtain rfl : n = i := by omega
      rw [show cs.take n = cs by rw [← HL.out, List.take_length]] at hO
      obtain ⟨ao, cap, rfl, hO1⟩ := OutAt.of hO (by rw [List.length_map]; exact HL.out)
      clear hO
      go_wp2_with (fail)
      go_ret
      exact ⟨hbel, _, _, rfl, hO1⟩
def cl6 (l : List Nat) : List Nat := l.map (fun x => min x 126)
theorem cl6_len (l : List Nat) : (cl6 l).length = l.length := by unfold cl6; rw [List.length_map]
theorem cl6_get (l : List Nat) (i : Nat) (h : i < l.length) : (cl6 l).getD i 0 = min (l.getD i 0) 126 := by
  unfold cl6
  rw [List.getD_eq_getElem?_getD, List.getD_eq_getElem?_getD, List.getElem?_map, List.getElem?_eq_getElem h]
  rfl
theorem cl6_set (l : List Nat) (i v : Nat) : cl6 (l.set i v) = (cl6 l).set i (min v 126) := by unfold cl6; rw [List.map_set]
theorem cl6_same (l : List Nat) (i : Nat) (h : i < l.length) : cl6 (l.set i (min (l.getD i 0) 126)) = cl6 l := by
  rw [cl6_set]
  apply List.ext_getElem?
  intro j
  rw [List.getElem?_set]
  by_cases e : i = j
  · subst e
    rw [if_pos rfl, if_pos (by rw [cl6_len]; exact h)]
    have hg := cl6_get l i h
    rw [List.getD_eq_getElem?_getD] at hg
    have hc : i < (cl6 l).length := by rw [cl6_len]; exact h
    rw [List.getElem?_eq_getElem hc] at hg ⊢
    simp only [Option.getD_some] at hg
    rw [hg]
    congr 1
    omega
  · rw [if_neg e]
theorem cl6_id (l : List Nat) (h : ∀ j, j < l.length → l.getD j 0 ≤ 126) : cl6 l = l := by
  unfold cl6
  conv => rhs; rw [← List.map_id l]
  refine List.map_congr_left fun x hx => ?_
  obtain ⟨j, hj, rfl⟩ := List.getElem_of_mem hx
  have := h j hj
  rw [List.getD_eq_getElem?_getD, List.getElem?_eq_getElem hj] at this
  simp only [Option.getD_some] at this
  show min _ 126 = id _
  rw [id]
  omega
theorem set_getD (l : List Nat) (i j v : Nat) (h : i < l.length) : (l.set i v).getD j 0 = if i = j then v else l.getD j 0 := by
  rw [List.getD_eq_getElem?_getD, List.getElem?_set, List.getD_eq_getElem?_getD]
  by_cases e : i = j
  · subst e; rw [if_pos rfl, if_pos h, if_pos rfl]; rfl
  · rw [if_neg e, if_neg e]
set_option maxRecDepth 100000 in
set_option maxHeartbeats 2000000 in
theorem RefRow_any (a la : Option Addr) (cs : List Int) (ls : List Nat) (n1 n2 c lc base : Nat) (fr tt : Int) (w : World) (h1 : cs.length = n1) (h2 : ls.length = n2) (hc : Rd .i32 w a cs) (hls : Rd .u8 w la (ints ls)) (hn1 : n1 ≤ 2097152) (hn2 : n2 ≤ 2097152)
    (hlc : n1 ≤ c) (hcm : c ≤ 9223372036854775807) (ha : (∃ G o, a = some ⟨G, o, none⟩) ∨ c = 0) :
    Calls Try.prog 12 #[.slice a n1 c, .slice la n2 lc, .int .u8 base, .int .i64 fr, .int .i64 tt] w (RowPost (rowI cs ls base fr tt) w) := by
  obtain ⟨i5, hi5, hz5, ha5, hb5⟩ := info_parts (Try.info_u8)
  obtain ⟨M, hM⟩ : ∃ M, min n1 n2 = M := ⟨_, rfl⟩
  obtain ⟨F, hF⟩ : ∃ F, clampN M fr = F := ⟨_, rfl⟩
  obtain ⟨T, hT⟩ : ∃ T, clampN M tt = T := ⟨_, rfl⟩
  obtain ⟨B6, hB6⟩ : ∃ B6, min base 126 = B6 := ⟨_, rfl⟩
  have hR : rowI cs ls base fr tt = if T < F then none else some (hangF cs B6 F (T - F) true ((ls.drop F).take (T - F))) := by
    unfold rowI
    simp only [h1, h2, hM, hF, hT, hB6]
  rw [hR]
  have eM : min (n1 : Int) (n2 : Int) = (M : Int) := by omega
  have eF : max 0 (min (M : Int) fr) = (F : Int) := by rw [← hF]; unfold clampN; omega
  have eT : max 0 (min (M : Int) tt) = (T : Int) := by rw [← hT]; unfold clampN; omega
  have eB : min (base : Int) 126 = (B6 : Int) := by omega
  have hB126 : B6 ≤ 126 := by omega
  have hFM : F ≤ M := by rw [← hF]; unfold clampN; omega
  have hTM : T ≤ M := by rw [← hT]; unfold clampN; omega
  have hM1 : M ≤ n1 := by omega
  have hM2 : M ≤ n2 := by omega
  have H1 := Lib.hid h1
  have H2 := Lib.hid h2
  clear hM hF hT hB6 hR h1 h2
  by_cases hTF : T < F
  · rw [if_pos hTF]
    have ht : (T : Int) < (F : Int) := by omega
    go_enter Try.func12, Try.ntmps12
    go_wp2_with (fail)
    go_ret
    exact ⟨Below.refl _ _, rfl⟩
  · rw [if_neg hTF]
    obtain ⟨K, hK⟩ : ∃ K, T - F = K := ⟨_, rfl⟩
    rw [hK]
    have HTK : Hid (F + K = T) := Lib.hid (by omega)
    obtain ⟨l0, hl0⟩ : ∃ l0, (ls.drop F).take K = l0 := ⟨_, rfl⟩
    rw [hl0]
    have hl0l : l0.length = K := by rw [← hl0, List.length_take, List.length_drop]; have := H2.out; omega
    have hl0g : ∀ k, k < K → l0.getD k 0 = ls.getD (F + k) 0 := fun k hk => by
      rw [← hl0, List.getD_eq_getElem?_getD, List.getElem?_take, if_pos hk, List.getElem?_drop, List.getD_eq_getElem?_getD]
    obtain ⟨FIN, hFIN⟩ : ∃ FIN, hangF cs B6 F K true l0 = FIN := ⟨_, rfl⟩
    rw [hFIN]
    have hfl : FIN.length = K := by rw [← hFIN, hangF_len, hl0l]
    have HFL := Lib.hid hfl
    have HFIN := Lib.hid hFIN
    have HL0 := Lib.hid hl0l
    have HLG := Lib.hid hl0g
    have hsl : ((cs.drop F).take K).length = K := by rw [List.length_take, List.length_drop]; have := H1.out; omega
    have hsg : ∀ k, k < K → ith (((cs.drop F).take K).map dirI) k = dirI (ith cs (F + k)) := fun k hk => by
      unfold ith
      have hkc : F + k < cs.length := by have := H1.out; have := HTK.out; omega
      rw [List.getD_eq_getElem?_getD, List.getElem?_map, List.getElem?_take, if_pos hk, List.getElem?_drop, List.getD_eq_getElem?_getD, List.getElem?_eq_getElem hkc]
      rfl
    have HSG := Lib.hid hsg
    have HSL := Lib.hid hsl
    have ht : ¬ (T : Int) < (F : Int) := by omega
    have ht2 : (F : Int) ≤ (T : Int) := by omega
    have gF0 : (0 : Int) ≤ (F : Int) := by omega
    have gT1 : (T : Int) ≤ (c : Int) := by omega
    have gT0 : (0 : Int) ≤ (T : Int) := by omega
    have hdr : ∀ ad c', (ad = a ∧ (F = 0 ∨ K = 0) ∨ ∃ G o, a = some ⟨G, o, none⟩ ∧ ad = some ⟨G, o + F, none⟩) →
        Calls Try.prog 29 #[.slice ad K c'] w fun e w' => Below w.heap.size w w' ∧ ∃ a c, e = .returned (.slice a K c) ∧ OutAt .i8 40 w' w.heap.size a c (((cs.drop F).take K).map dirI) := fun ad c' had => by
      refine RefDirs_any ad ((cs.drop F).take K) K c' w hsl ?_ (by omega)
      rcases had with ⟨rfl, h | h⟩ | ⟨G, o, e, rfl⟩
      · subst h
        rw [List.drop_zero]
        exact rd_take hc K
      · exact .inl (List.eq_nil_of_length_eq_zero (by rw [hsl]; exact h))
      · rw [e] at hc
        exact rd_take (rd_drop hc F) K
    have HDR := Lib.hid hdr
    clear hfl hFIN hl0 hl0l hl0g hdr hTF hsl hsg
    go_enter Try.func12, Try.ntmps12
    go_upto_region 7 with (fail)
    go_cut [12] (fun v wx => ∃ da dc, v = .slice da K dc ∧ OutAt .i8 40 wx w.heap.size da dc (((cs.drop F).take K).map dirI) ∧ Below w.heap.size w wx)
    case first =>
      have HKI := Lib.hid hK
      rcases ha with ⟨G, o, rfl⟩ | h0
      · by_cases hcF : c = F
        · have hK0 : K = 0 := by omega
          have hTF2 : T = F := by omega
          subst hK0 hTF2
          subst hcF
          have hcal := HDR.out (some ⟨G, o, none⟩) 0 (.inl ⟨rfl, .inr rfl⟩)
          clear hK
          go_wp2_with (go_at_call 29; refine hcal.mono ?_; rintro e w1 ⟨hb1, oa, oc, rfl, hO1⟩)
          go_meet
          exact ⟨oa, oc, rfl, hO1, hb1⟩
        · have hcal := HDR.out (some ⟨G, o + F, none⟩) (c - F) (.inr ⟨G, o, rfl, rfl⟩)
          rw [← hK] at hcal
          clear hK
          go_wp2_with (go_at_call 29; refine hcal.mono ?_; rintro e w1 ⟨hb1, oa, oc, rfl, hO1⟩)
          go_meet
          exact ⟨oa, oc, by rw [HKI.out], by rw [HKI.out] at hO1; exact hO1, hb1⟩
      · have hT0 : T = 0 := by omega
        have hF0 : F = 0 := by omega
        have hK0 : K = 0 := by omega
        subst h0 hT0 hF0 hK0
        have hcal := HDR.out a 0 (.inl ⟨rfl, .inl rfl⟩)
        clear hK
        go_wp2_with (go_at_call 29; refine hcal.mono ?_; rintro e w1 ⟨hb1, oa, oc, rfl, hO1⟩)
        go_meet
        exact ⟨oa, oc, rfl, hO1, hb1⟩
    case rest =>
      obtain ⟨da, dc, rfl, hD, hbD⟩ := hcut
      have HDD := Lib.hid hD
      have HBD := Lib.hid hbD
      have HKI := Lib.hid hK
      have hKM : K ≤ 2097152 := by omega
      have HTN : Hid (T ≤ n2) := Lib.hid (by omega)
      have HB6 := Lib.hid hB126
      clear hD hbD HDR ha hK eM eF eT eB hFM hTM hM1 hM2 ht2 gF0 gT1 gT0 hB126 ht hlc hcm
      go_wp2_with (fail)
      go_loopw [13, 14] (fun u13 u wx => ∃ k : Nat, k ≤ K ∧ u = .int .i64 ((F + k : Nat) : Int) ∧ wx.ownsRow wc.heap.size 5 1 u13 k ((ints (cl6 (l0.take k))).map (Value.int .u8)) ∧ Below wc.heap.size wc wx) (fun _ u _ => T - (intOf u).toNat)
      case atStart => exact ⟨0, by omega, by first | rfl | go_num, World.ownsRow_nil _ _ _ _, Below.refl _ _⟩
      case round =>
        obtain ⟨k, hk, rfl, hO, hbel⟩ := hrel
        obtain ⟨i, hi⟩ : ∃ i, F + k = i := ⟨_, rfl⟩
        rw [hi]
        by_cases hlt : k < K
        · have hsz := hbel.size
          have hiT : (i : Int) < (T : Int) := by have := HTK.out; omega
          obtain ⟨G, o, rfl, hG, hcl⟩ := hls.at ((HBD.out.trans (hbel.mono HBD.out.size))) i (by rw [ints_len, H2.out]; have := HTN.out; omega)
          rw [ith_ints] at hcl
          obtain ⟨x, hx⟩ : ∃ x, ls.getD i 0 = x := ⟨_, rfl⟩
          rw [hx] at hcl
          obtain ⟨m6, hm6⟩ : ∃ m6, min x 126 = m6 := ⟨_, rfl⟩
          have hmi : min (x : Int) 126 = (m6 : Int) := by omega
          have hm126 : m6 ≤ 126 := by omega
          have hnx : ints (cl6 (l0.take (k + 1))) = ints (cl6 (l0.take k)) ++ [(m6 : Int)] := by
            have hk0 : k < l0.length := by rw [HL0.out]; exact hlt
            have hg := HLG.out k hlt
            rw [hi, hx, List.getD_eq_getElem?_getD, List.getElem?_eq_getElem hk0] at hg
            simp only [Option.getD_some] at hg
            rw [List.take_succ_eq_append_getElem hk0, hg]
            unfold cl6 ints
            rw [List.map_append, List.map_append, ← hm6]
            rfl
          have HNX := Lib.hid hnx
          have HI := Lib.hid hi
          have g0 : (0 : Int) ≤ (i : Int) := by omega
          have g1 : (i : Int) < (n2 : Int) := by have := HTN.out; omega
          clear hx hm6 hnx hi
          go_wp2_with (at_builtin; refine wpList_append_own _ rfl (.tmp 48) (.tmp 54) 23 rfl wc.heap.size 5 i5 _ 1 1 Try.underlying23 hi5 hz5 ha5 hb5 rfl (by omega) _ k _ rfl (hO.alloc _) ⟨wr.heap.size, 0, none⟩ 1 1 [.int .u8 m6] rfl rfl (World.news_of_block (cs := #[.int .u8 m6]) (t := 5) (fr := (0, 0)) (heap_alloc_new _ _)) (by simp [Value.oneCell']) (by unfold maxLen; omega) (by omega) (by simp; omega) ?_; intro v7 w7 hown7 hg7 _)
          have hb7 := (hbel.alloc hsz (.cells #[.int .u8 m6] 5)).grown hg7 (by simp; omega) (fun k hk => (hO.lt k hk).1)
          go_roundw
          case rel => exact ⟨k + 1, by omega, by rw [← Nat.add_assoc, HI.out]; go_num, by rw [HNX.out, List.map_append]; exact hown7, hb7⟩
          case measure => simp [intOf]; have := HTK.out; have := HI.out; omega
        · obtain rfl : K = k := by omega
          have hiT : ¬ (i : Int) < (T : Int) := by have := HTK.out; omega
          rw [show l0.take K = l0 by rw [← HL0.out, List.take_length]] at hO
          obtain ⟨oa, oc, rfl, hO1⟩ := OutAt.of hO (by rw [ints_len, cl6_len, HL0.out])
          have HO1 := Lib.hid hO1
          have HB1 := Lib.hid hbel
          clear hO hO1 hbel hi hlt hk
          go_wp2_with (fail)
          clear hiT
          go_loopw [15, 16, 17, 18] (fun u13 u14 _ _ wx => ∃ (k : Nat) (z : Int) (h : Bool) (out : List Nat), u13 = .bool h ∧ u14 = .int .i64 z ∧ z + 1 = k ∧ k ≤ K ∧ OutAt .u8 5 wx wc.heap.size oa oc (ints (cl6 out)) ∧ out.length = K ∧ Below wc.heap.size wc wx ∧ (∀ j, k ≤ j → j < K → out.getD j 0 ≤ 126) ∧ hangF cs B6 F k h out = FIN) (fun _ c _ _ _ => (intOf c + 1).toNat)
          case atStart => exact ⟨K, (K : Int) - 1, true, l0, rfl, by go_num, by omega, Nat.le_refl _, HO1.out, HL0.out, HB1.out, fun j h1 h2 => by omega, HFIN.out⟩
          case round =>
            obtain ⟨k, z, h, out, rfl, rfl, hzk, hkK, hO, hol, hbel, hup, hF⟩ := hrel
            clear HO1 HB1
            cases k with
            | zero =>
              have hz : z = -1 := by omega
              subst hz
              rw [hangF] at hF
              have HF := Lib.hid hF
              have HOL := Lib.hid hol
              rw [cl6_id out (fun j hj => hup j (Nat.zero_le _) (by omega))] at hO
              have HO := Lib.hid hO
              have HBE := Lib.hid (HBD.out.trans (hbel.mono HBD.out.size))
              have HWC := Lib.hid HBD.out.size
              clear hF hol hzk hO hup hbel
              go_wp2_with (fail)
              go_ret
              refine ⟨HBE.out, ?_⟩
              have e := HF.out
              subst e
              exact ⟨oa, oc, by rw [HOL.out]; rfl, ownsRow_base HO.out HWC.out⟩
            | succ k =>
              have hz : z = (k : Int) := by omega
              subst hz
              obtain ⟨G, hG, hGb, hGl, hXo, hFo, hz1, hz2⟩ := hO.at k (by rw [ints_len, cl6_len, hol]; omega)
              subst hG
              obtain ⟨Gd, hGd, hz3, hz4, hDc, hz5⟩ := (HDD.out.keep hbel).at k (by rw [List.length_map, HSL.out]; omega)
              subst hGd
              clear hz1 hz2 hz3 hz4 hz5
              rw [HSG.out k (by omega)] at hDc
              obtain ⟨x, hx⟩ : ∃ x, out.getD k 0 = x := ⟨_, rfl⟩
              obtain ⟨y, hy⟩ : ∃ y, ith cs (F + k) = y := ⟨_, rfl⟩
              rw [hy] at hDc
              rw [hangF, hy, hx] at hF
              generalize ith (ints (cl6 out)) k = vo at hXo
              obtain ⟨m6, hm6⟩ : ∃ m6, min x 126 = m6 := ⟨_, rfl⟩
              rw [hm6] at hF
              obtain ⟨d, hd⟩ : ∃ d, dirI y = d := ⟨_, rfl⟩
              rw [hd] at hF hDc
              obtain ⟨hh, hhh⟩ : ∃ hh, hangsF d h = hh := ⟨_, rfl⟩
              rw [hhh] at hF
              have hkl : k < out.length := by omega
              have hsA : ints (cl6 ((out.set k m6).set k B6)) = (ints (cl6 out)).set k (B6 : Int) := by
                rw [List.set_set, cl6_set, Nat.min_eq_left HB6.out, ints_set]
              have hsB : cl6 (out.set k m6) = cl6 out := by rw [← hm6, ← hx]; exact cl6_same out k hkl
              have HA : Hid (OutAt .u8 5 (wr.setCell ⟨G, k, none⟩ (.int .u8 (B6 : Nat))) wc.heap.size (some ⟨G, 0, none⟩) oc (ints (cl6 ((out.set k m6).set k B6)))) := Lib.hid (by rw [hsA]; exact hO.set k B6)
              have HO2 : Hid (OutAt .u8 5 wr wc.heap.size (some ⟨G, 0, none⟩) oc (ints (cl6 (out.set k m6)))) := Lib.hid (by rw [hsB]; exact hO)
              have HBA := Lib.hid (hbel.setCell (p := ⟨G, k, none⟩) hGb (.int .u8 (B6 : Nat)))
              have HUB : Hid (∀ j, k ≤ j → j < K → (out.set k m6).getD j 0 ≤ 126) := Lib.hid fun j h1 h2 => by
                rw [set_getD _ _ _ _ hkl]
                split
                · omega
                · exact hup j (by omega) h2
              have HUA : Hid (∀ j, k ≤ j → j < K → ((out.set k m6).set k B6).getD j 0 ≤ 126) := Lib.hid fun j h1 h2 => by
                rw [set_getD _ _ _ _ (by rw [List.length_set]; exact hkl)]
                split
                · exact HB6.out
                · exact HUB.out j h1 h2
              have HF := Lib.hid hF
              have HO := HO2
              have HOL := Lib.hid hol
              have HBE := Lib.hid hbel
              have HH : Hid (hh = if d = 11 ∨ d = 10 then true else if d ≠ 12 ∧ leftB d = false ∧ (d < 19 ∨ 22 < d) then false else h) := Lib.hid hhh.symm
              obtain ⟨lb, hlb⟩ : ∃ lb, leftB d = lb := ⟨_, rfl⟩
              have HLB : Hid (∀ W, Calls Try.prog 30 #[.int .i8 d] W fun e w' => e = .returned (.bool lb) ∧ W = w') := Lib.hid fun W => by rw [← hlb]; exact RefOut_any d W
              have HH2 := HH
              rw [hlb] at HH2
              have gk0 : (0 : Int) ≤ (k : Int) := by omega
              have gk1 : (k : Int) < (K : Int) := by omega
              clear hF hO hol hbel hx hy hm6 hd hhh hzk hlb hsA hsB hup HO2 HH hkl hGb hGl
              by_cases h11 : d = 11
              · subst h11
                have HE := Lib.hid (HH2.out.trans (if_pos (.inl rfl)))
                have hn := HF.out
                rw [HE.out, if_pos rfl] at hn
                have HN := Lib.hid hn
                clear hn
                clear HF
                go_wp2_with (go_at_call 30; refine (HLB.out _).mono ?_; rintro e w' ⟨rfl, hw'⟩; subst hw')
                go_roundw
                case rel => exact ⟨k, (k : Int) - 1, true, _, rfl, by go_num, by omega, by omega, HA.out, by rw [List.length_set, List.length_set]; exact HOL.out, HBA.out, HUA.out, HN.out⟩
                case measure => simp [intOf]
              · by_cases h10 : d = 10
                · subst h10
                  have HE := Lib.hid (HH2.out.trans (if_pos (.inr rfl)))
                  have hn := HF.out
                  rw [HE.out, if_pos rfl] at hn
                  have HN := Lib.hid hn
                  clear hn
                  clear HF
                  go_wp2_with (go_at_call 30; refine (HLB.out _).mono ?_; rintro e w' ⟨rfl, hw'⟩; subst hw')
                  go_roundw
                  case rel => exact ⟨k, (k : Int) - 1, true, _, rfl, by go_num, by omega, by omega, HA.out, by rw [List.length_set, List.length_set]; exact HOL.out, HBA.out, HUA.out, HN.out⟩
                  case measure => simp [intOf]
                · have e := HH2.out.trans (if_neg (by omega))
                  have c11 : (d == 11) = false := by simpa using h11
                  have c10 : (d == 10) = false := by simpa using h10
                  by_cases h12 : d = 12
                  · subst h12
                    cases h with
                    | true =>
                      have HE := Lib.hid (e.trans (if_neg (fun h => h.1 rfl)))
                      clear e
                      have hn := HF.out
                      rw [HE.out, if_pos rfl] at hn
                      have HN := Lib.hid hn
                      clear hn
                      clear HF
                      go_wp2_with (go_at_call 30; refine (HLB.out _).mono ?_; rintro e w' ⟨rfl, hw'⟩; subst hw')
                      go_roundw
                      case rel => exact ⟨k, (k : Int) - 1, true, _, rfl, by go_num, by omega, by omega, HA.out, by rw [List.length_set, List.length_set]; exact HOL.out, HBA.out, HUA.out, HN.out⟩
                      case measure => simp [intOf]
                    | false =>
                      have HE := Lib.hid (e.trans (if_neg (fun h => h.1 rfl)))
                      clear e
                      have hn := HF.out
                      rw [HE.out, if_neg (by decide)] at hn
                      have HN := Lib.hid hn
                      clear hn
                      clear HF
                      go_wp2_with (go_at_call 30; refine (HLB.out _).mono ?_; rintro e w' ⟨rfl, hw'⟩; subst hw')
                      go_roundw
                      case rel => exact ⟨k, (k : Int) - 1, false, _, rfl, by go_num, by omega, by omega, HO.out, by rw [List.length_set]; exact HOL.out, HBE.out, HUB.out, HN.out⟩
                      case measure => simp [intOf]
                  · have c12 : (d == 12) = false := by simpa using h12
                    by_cases h19 : 19 ≤ d ∧ d ≤ 22
                    · have c19 := h19.1
                      have c22 := h19.2
                      have e2 := e.trans (if_neg (fun h => by omega))
                      clear e h19
                      cases h with
                      | true =>
                        have HE := Lib.hid e2
                        clear e2
                        have hn := HF.out
                        rw [HE.out, if_pos rfl] at hn
                        have HN := Lib.hid hn
                        clear hn
                        clear HF
                        go_wp2_with (go_at_call 30; refine (HLB.out _).mono ?_; rintro e w' ⟨rfl, hw'⟩; subst hw')
                        go_roundw
                        case rel => exact ⟨k, (k : Int) - 1, true, _, rfl, by go_num, by omega, by omega, HA.out, by rw [List.length_set, List.length_set]; exact HOL.out, HBA.out, HUA.out, HN.out⟩
                        case measure => simp [intOf]
                      | false =>
                        have HE := Lib.hid e2
                        clear e2
                        have hn := HF.out
                        rw [HE.out, if_neg (by decide)] at hn
                        have HN := Lib.hid hn
                        clear hn
                        clear HF
                        go_wp2_with (go_at_call 30; refine (HLB.out _).mono ?_; rintro e w' ⟨rfl, hw'⟩; subst hw')
                        go_roundw
                        case rel => exact ⟨k, (k : Int) - 1, false, _, rfl, by go_num, by omega, by omega, HO.out, by rw [List.length_set]; exact HOL.out, HBE.out, HUB.out, HN.out⟩
                        case measure => simp [intOf]
                    · cases lb with
                      | true =>
                        have e2 := e.trans (if_neg (fun h => by have := h.2.1; simp at this))
                        clear e
                        cases h with
                        | true =>
                          have HE := Lib.hid e2
                          clear e2
                          by_cases c19 : 19 ≤ d
                          · have c22 : ¬ d ≤ 22 := by omega
                            clear h19
                            have hn := HF.out
                            rw [HE.out, if_pos rfl] at hn
                            have HN := Lib.hid hn
                            clear hn
                            clear HF
                            go_wp2_with (go_at_call 30; refine (HLB.out _).mono ?_; rintro e w' ⟨rfl, hw'⟩; subst hw')
                            go_roundw
                            case rel => exact ⟨k, (k : Int) - 1, true, _, rfl, by go_num, by omega, by omega, HA.out, by rw [List.length_set, List.length_set]; exact HOL.out, HBA.out, HUA.out, HN.out⟩
                            case measure => simp [intOf]
                          · clear h19
                            have hn := HF.out
                            rw [HE.out, if_pos rfl] at hn
                            have HN := Lib.hid hn
                            clear hn
                            clear HF
                            go_wp2_with (go_at_call 30; refine (HLB.out _).mono ?_; rintro e w' ⟨rfl, hw'⟩; subst hw')
                            go_roundw
                            case rel => exact ⟨k, (k : Int) - 1, true, _, rfl, by go_num, by omega, by omega, HA.out, by rw [List.length_set, List.length_set]; exact HOL.out, HBA.out, HUA.out, HN.out⟩
                            case measure => simp [intOf]
                        | false =>
                          have HE := Lib.hid e2
                          clear e2
                          by_cases c19 : 19 ≤ d
                          · have c22 : ¬ d ≤ 22 := by omega
                            clear h19
                            have hn := HF.out
                            rw [HE.out, if_neg (by decide)] at hn
                            have HN := Lib.hid hn
                            clear hn
                            clear HF
                            go_wp2_with (go_at_call 30; refine (HLB.out _).mono ?_; rintro e w' ⟨rfl, hw'⟩; subst hw')
                            go_roundw
                            case rel => exact ⟨k, (k : Int) - 1, false, _, rfl, by go_num, by omega, by omega, HO.out, by rw [List.length_set]; exact HOL.out, HBE.out, HUB.out, HN.out⟩
                            case measure => simp [intOf]
                          · clear h19
                            have hn := HF.out
                            rw [HE.out, if_neg (by decide)] at hn
                            have HN := Lib.hid hn
                            clear hn
                            clear HF
                            go_wp2_with (go_at_call 30; refine (HLB.out _).mono ?_; rintro e w' ⟨rfl, hw'⟩; subst hw')
                            go_roundw
                            case rel => exact ⟨k, (k : Int) - 1, false, _, rfl, by go_num, by omega, by omega, HO.out, by rw [List.length_set]; exact HOL.out, HBE.out, HUB.out, HN.out⟩
                            case measure => simp [intOf]
                      | false =>
                        have HE := Lib.hid (e.trans (if_pos ⟨h12, rfl, by omega⟩))
                        clear e
                        by_cases c19 : 19 ≤ d
                        · have c22 : ¬ d ≤ 22 := by omega
                          clear h19
                          have hn := HF.out
                          rw [HE.out, if_neg (by decide)] at hn
                          have HN := Lib.hid hn
                          clear hn
                          clear HF
                          go_wp2_with (go_at_call 30; refine (HLB.out _).mono ?_; rintro e w' ⟨rfl, hw'⟩; subst hw')
                          go_roundw
                          case rel => exact ⟨k, (k : Int) - 1, false, _, rfl, by go_num, by omega, by omega, HO.out, by rw [List.length_set]; exact HOL.out, HBE.out, HUB.out, HN.out⟩
                          case measure => simp [intOf]
                        · clear h19
                          have hn := HF.out
                          rw [HE.out, if_neg (by decide)] at hn
                          have HN := Lib.hid hn
                          clear hn
                          clear HF
                          go_wp2_with (go_at_call 30; refine (HLB.out _).mono ?_; rintro e w' ⟨rfl, hw'⟩; subst hw')
                          go_roundw
                          case rel => exact ⟨k, (k : Int) - 1, false, _, rfl, by go_num, by omega, by omega, HO.out, by rw [List.length_set]; exact HOL.out, HBE.out, HUB.out, HN.out⟩
                          case measure => simp [intOf]
end Go.Proofs.Ytbhhebheclfdlaa
