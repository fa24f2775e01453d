/- The law VisualIsolates of layer 10: at any line with an isolate (each part at most 1048576 characters) and any want it answers true, and nothing that was there changes. -/
import Derived.Test.YtbhhebheclfdlaaOwn
import Derived.Test.YtbhhebheclfdlaaIso
import Derived.Test.YtbhhebheclfdlaaVisG
import Derived.Test.YtbhhebheclfdlaaWake
import Derived.IntWalk
namespace Go.Proofs.Ytbhhebheclfdlaa
set_option linter.unusedVariables false
set_option linter.unusedSimpArgs false
open Go.RowKit


theorem Try.info_i32q : (Try.prog.info? 21).map (fun i => (i.zero, i.size, i.bytes)) = some (some (.int .i32 0), 1, 4) := by kernel_rfl
theorem tab_mem : ∀ (T : List (Int × Int)) (r : Int), T ≠ [] → ∃ x ∈ T, tabLook T r = x.2
  | [], _, h => absurd rfl h
  | [x], _, _ => ⟨x, by simp, rfl⟩
  | x :: y :: rest, r, _ => by
    rw [tabLook]
    split
    · exact ⟨x, by simp, rfl⟩
    · obtain ⟨z, hz, e⟩ := tab_mem (y :: rest) r (by simp)
      exact ⟨z, List.mem_cons_of_mem _ hz, e⟩
theorem dirs_small : dirsT.all (fun x => decide (0 ≤ x.2) && decide (x.2 ≤ 22)) = true := by decide +kernel
theorem dirI_bd (r : Int) : 0 ≤ dirI r ∧ dirI r ≤ 22 := by
  obtain ⟨x, hx, e⟩ := tab_mem dirsT (known r) (by decide +kernel)
  have := List.all_eq_true.1 dirs_small x hx
  unfold dirI
  rw [e]
  simpa using this
def QuietPost (w : World) (e : Ending) (w' : World) : Prop :=
  Below w.heap.size w w' ∧ ∃ (Z : List Int) (a : Option Addr) (c : Nat), e = .returned (.slice a Z.length c) ∧ Z.length ≤ 1000 ∧ (∀ x ∈ Z, Quiet (dirI x)) ∧ OutAt .i32 21 w' w.heap.size a c Z
set_option maxRecDepth 100000 in
set_option maxHeartbeats 2000000 in
theorem quiet_any (a : Option Addr) (cs : List Int) (n c : Nat) (w : World) (hl : cs.length = n) (hd : Rd .i32 w a cs) (hn : n ≤ 2097152) :
    Calls Try.prog 41 #[.slice a n c] w (QuietPost w) := by
  obtain ⟨i3, hi3, hz3, ha3, hb3⟩ := info_parts (Try.info_i32q)
  have HL := Lib.hid hl
  clear hl
  go_enter Try.func41, Try.ntmps41
  go_wp2_with (fail)
  go_loopw [3, 4, 5] (fun u3 u4 _ wx => ∃ (i : Nat) (Z : List Int) (ao : Option Addr) (cap : Nat), i ≤ n ∧ u4 = .int .i64 i ∧ u3 = .slice ao Z.length cap ∧ Z.length ≤ i ∧ Z.length ≤ 1000 ∧ (∀ x ∈ Z, Quiet (dirI x)) ∧ OutAt .i32 21 wx w.heap.size ao cap Z ∧ Below w.heap.size w wx) (fun _ u _ _ => n - (intOf u).toNat)
  case atStart => exact ⟨0, [], none, 0, by omega, rfl, rfl, by simp, by simp, fun x hx => by simp at hx, World.ownsRow_nil _ _ _ _, Below.refl _ _⟩
  case round =>
    obtain ⟨i, Z, ao, cap, hi, rfl, rfl, hZi, hZ, hQ, hO, hbel⟩ := hrel
    by_cases hlt : i < n
    · by_cases hz : Z.length < 1000
      · have hsz := hbel.size
        obtain ⟨G, o, rfl, hG, hcl⟩ := hd.at hbel i (by rw [HL.out]; exact hlt)
        obtain ⟨y, hy⟩ : ∃ y, ith cs i = y := ⟨_, rfl⟩
        rw [hy] at hcl
        obtain ⟨d, hdy⟩ : ∃ d, dirI y = d := ⟨_, rfl⟩
        have hdb := dirI_bd y
        rw [hdy] at hdb
        have hDir : Hid (∀ W, Calls Try.prog 26 #[.int .i32 y] W fun e w' => e = .returned (.int .i8 d) ∧ Below W.heap.size W w') := Lib.hid fun W => by rw [← hdy]; exact Dir_any y W
        have hDY := Lib.hid hdy
        have HQ := Lib.hid hQ
        obtain ⟨m, hm⟩ : ∃ m, Z.length = m := ⟨_, rfl⟩
        rw [hm] at hz hZi hZ
        have g0 : (0 : Int) ≤ (i : Int) := by omega
        have g1 : (i : Int) < (n : Int) := by omega
        have g2 : (m : Int) < 1000 := by omega
        have hO0 := hO
        unfold OutAt at hO0
        rw [hm] at hO0 ⊢
        have HM := Lib.hid hm
        have HO := Lib.hid hO
        clear hy hdy hQ hm hO
        go_upto_region 6 with (go_at_call 26; refine (hDir.out _).mono ?_; rintro e w2 ⟨rfl, hw2⟩)
        have hcl2 := cell_bl hw2 (cell_lt hcl) hcl
        have hb2 := hbel.trans (hw2.mono hbel.size)
        have HO2 := Lib.hid (HO.out.keep hw2)
        have hO2 := HO2.out
        unfold OutAt at hO2
        rw [HM.out] at hO2
        have hsz2 := hb2.size
        clear hcl hw2 hbel hO0 HO
        have KEEP : Hid (∃ (i' : Nat) (Z' : List Int) (ao' : Option Addr) (cap' : Nat), i' ≤ n ∧ (Value.int .i64 ((i : Int) + 1)) = .int .i64 i' ∧ (Value.slice ao m cap) = .slice ao' Z'.length cap' ∧ Z'.length ≤ i' ∧ Z'.length ≤ 1000 ∧ (∀ x ∈ Z', Quiet (dirI x)) ∧ OutAt .i32 21 w2 w.heap.size ao' cap' Z' ∧ Below w.heap.size w w2) :=
          Lib.hid ⟨i + 1, Z, ao, cap, by omega, by go_num, by rw [HM.out], by rw [HM.out]; omega, by rw [HM.out]; omega, HQ.out, HO2.out, hb2⟩
        by_cases e10 : d = 10
        · subst e10
          go_wp2_with (fail)
          go_roundw
          case rel => exact KEEP.out
          case measure => simp [intOf]; omega
        have c10 : (d == 10) = false := by simpa using e10
        have n10 : (d != 10) = true := by simpa using e10
        by_cases e19 : d = 19
        · subst e19
          go_wp2_with (fail)
          go_roundw
          case rel => exact KEEP.out
          case measure => simp [intOf]; omega
        have c19 : (d == 19) = false := by simpa using e19
        have n19 : (d != 19) = true := by simpa using e19
        by_cases e20 : d = 20
        · subst e20
          go_wp2_with (fail)
          go_roundw
          case rel => exact KEEP.out
          case measure => simp [intOf]; omega
        have c20 : (d == 20) = false := by simpa using e20
        have n20 : (d != 20) = true := by simpa using e20
        by_cases e21 : d = 21
        · subst e21
          go_wp2_with (fail)
          go_roundw
          case rel => exact KEEP.out
          case measure => simp [intOf]; omega
        have c21 : (d == 21) = false := by simpa using e21
        have n21 : (d != 21) = true := by simpa using e21
        by_cases e22 : d = 22
        · subst e22
          go_wp2_with (fail)
          go_roundw
          case rel => exact KEEP.out
          case measure => simp [intOf]; omega
        have c22 : (d == 22) = false := by simpa using e22
        have n22 : (d != 22) = true := by simpa using e22
        have hqy : Quiet (dirI y) := by rw [hDY.out]; unfold Quiet; omega
        have HQY := Lib.hid hqy
        clear hqy KEEP
        go_wp2_with (at_builtin; refine wpList_append_own _ rfl (.tmp 40) (.tmp 45) 22 rfl w.heap.size 21 i3 _ 1 4 Try.underlying22 hi3 hz3 ha3 hb3 rfl (by decide) _ m _ rfl (hO2.alloc _) ⟨w2.heap.size, 0, none⟩ 1 1 [.int .i32 y] rfl rfl (World.news_of_block (cs := #[.int .i32 y]) (t := 21) (fr := (0, 0)) (heap_alloc_new _ _)) (by simp [Value.oneCell']) (by unfold maxLen; omega) (by omega) (by simp; omega) ?_; intro v7 w7 hown7 hg7 _)
        have hb7 := (hb2.alloc hsz2 (.cells #[.int .i32 y] 21)).grown hg7 (by simp; omega) (fun k hk => (hO2.lt k hk).1)
        have e7 : Z.map (Value.int .i32) ++ [.int .i32 y] = (Z ++ [y]).map (Value.int .i32) := by simp
        rw [e7] at hown7
        obtain ⟨ao7, cap7, rfl, hO7⟩ := OutAt.of hown7 (by rw [List.length_append, HM.out]; rfl)
        go_roundw
        case rel => exact ⟨i + 1, Z ++ [y], ao7, cap7, by omega, by go_num, by rw [List.length_append, HM.out]; rfl, by rw [List.length_append, HM.out, List.length_singleton]; omega, by rw [List.length_append, HM.out, List.length_singleton]; omega, fun x hx => by
          rw [List.mem_append, List.mem_singleton] at hx
          rcases hx with hx | hx
          · exact HQ.out x hx
          · rw [hx]; exact HQY.out, hO7, hb7⟩
        case measure => simp [intOf]; omega
      · have g0 : ¬ ((Z.length : Int) < 1000) := by omega
        have HF := Lib.hid (show QuietPost w (.returned (.slice ao Z.length cap)) wr from ⟨hbel, Z, ao, cap, rfl, hZ, hQ, hO⟩)
        have g1 : (i : Int) < (n : Int) := by omega
        generalize Z.length = m at *
        clear hQ hO
        go_wp2_with (fail)
        go_ret
        exact HF.out
    · have g1 : ¬ (i : Int) < (n : Int) := by omega
      have HF := Lib.hid (show QuietPost w (.returned (.slice ao Z.length cap)) wr from ⟨hbel, Z, ao, cap, rfl, hZ, hQ, hO⟩)
      generalize Z.length = m at *
      clear hQ hO
      go_wp2_with (fail)
      go_ret
      exact HF.out
/-- the sign that begins the isolate -/
def sgnI (sg : Int) : Int := 8294 + Int.tmod (Int.tmod sg 3 + 3) 3
theorem sgn_bd (sg : Int) : sgnI sg = 8294 ∨ sgnI sg = 8295 ∨ sgnI sg = 8296 := by
  have h1 := Int.lt_tmod_of_pos sg (show (0 : Int) < 3 by omega)
  have h2 := Int.tmod_lt_of_pos sg (show (0 : Int) < 3 by omega)
  unfold sgnI
  generalize sg.tmod 3 = t at h1 h2 ⊢
  rw [Int.tmod_eq_emod_of_nonneg (show (0 : Int) ≤ t + 3 by omega)]
  omega
theorem sgn_wrap (sg : Int) : wrap32 (wrap64 (8294 + (wrap64 (sg.tmod 3 + 3)).tmod 3)) = sgnI sg := by
  have h1 := Int.lt_tmod_of_pos sg (show (0 : Int) < 3 by omega)
  have h2 := Int.tmod_lt_of_pos sg (show (0 : Int) < 3 by omega)
  have h3 := sgn_bd sg
  unfold sgnI at h3 ⊢
  generalize sg.tmod 3 = t at h1 h2 h3 ⊢
  unfold wrap32 wrap64
  have e : (t + 3 + 9223372036854775808) % 18446744073709551616 - 9223372036854775808 = t + 3 := by omega
  rw [e]
  omega
theorem sgn_dir (sg : Int) : 19 ≤ dirI (sgnI sg) ∧ dirI (sgnI sg) ≤ 21 := by
  rcases sgn_bd sg with e | e | e <;> rw [e] <;> decide +kernel
theorem own_keep {base e size n : Nat} {w w' : World} {v : Value} {xs : List Value} (h : w.ownsRow base e size v n xs) (hb : Below w.heap.size w w') : w'.ownsRow base e size v n xs :=
  World.ownsRow.kept h (row := none) ⟨hb.os, hb.tape, hb.output, hb.size, fun q hq _ => hb.block q hq⟩ (by cases v.ownBlock <;> simp)
def LinePost (A B : List Int) (s : Int) (nA nB m : Nat) (w : World) (e : Ending) (w' : World) : Prop :=
  Below w.heap.size w w' ∧ ∃ (Z : List Int) (a : Option Addr) (c : Nat), e = .returned (.tuple #[.slice a (m + 1 + Z.length + 1 + nB) c, .int .i64 m]) ∧ Z.length ≤ 1000 ∧ (∀ x ∈ Z, Quiet (dirI x)) ∧
    OutAt .i32 21 w' w.heap.size a c (A.take m ++ s :: (Z ++ 8297 :: B))
set_option maxRecDepth 100000 in
set_option maxHeartbeats 2000000 in
theorem line_any (aA aI aO aB a : Option Addr) (A B cs : List Int) (nA cA nI cI nO cO nB cB n c m : Nat) (sg : Int) (w : World) (hA : A.length = nA) (hdA : Rd .i32 w aA A) (hB : B.length = nB) (hdB : Rd .i32 w aB B) (hl : cs.length = n) (hd : Rd .i32 w a cs)
    (hn : n ≤ 1048576) (hnA : nA ≤ 1048576) (hnB : nB ≤ 1048576) (hm : m = min 50 nA) (hcA : nA ≤ cA) :
    Calls Try.prog 27 #[.agg #[.slice aA nA cA, .slice aI nI cI, .slice aO nO cO, .slice aB nB cB, .int .i64 sg], .slice a n c] w (LinePost A B (sgnI sg) nA nB m w) := by
  obtain ⟨i5, hi5, hz5, ha5, hb5⟩ := info_parts (Try.info_i32q)
  have HQT := Lib.hid (fun W (h : Rd .i32 W a cs) => quiet_any a cs n c W hl h (by omega))
  have hm50 : m ≤ 50 := by omega
  have hmA : m ≤ nA := by omega
  have eM : min (50 : Int) (nA : Int) = (m : Int) := by omega
  have g0 : (0 : Int) ≤ (m : Int) := by omega
  have g1 : (m : Int) ≤ (cA : Int) := by omega
  have HA := Lib.hid hA
  have HB := Lib.hid hB
  have HM := Lib.hid hm
  clear hA hB hl hm
  go_enter Try.func27, Try.ntmps27
  go_upto_region 1 with (fail)
  obtain ⟨w0, hw0⟩ : ∃ w0, w0 = w.alloc (.cells #[.slice aA nA cA, .slice aI nI cI, .slice aO nO cO, .slice aB nB cB, .int .i64 sg] 47) := ⟨_, rfl⟩
  have hb0 : Below w.heap.size w w0 := by rw [hw0]; exact (Below.refl _ _).alloc (Nat.le_refl _) _
  have hs0 : w0.heap.size = w.heap.size + 1 := by rw [hw0, World.size_alloc]
  have hq : ∀ W, Below w0.heap.size w0 W → W.cell? ⟨w.heap.size, 0, none⟩ = some (.slice aA nA cA) ∧ W.cell? ⟨w.heap.size, 3, none⟩ = some (.slice aB nB cB) ∧ W.cell? ⟨w.heap.size, 4, none⟩ = some (.int .i64 sg) := fun W hW => by
    have h0 : w0.cell? ⟨w.heap.size, 0, none⟩ = some (.slice aA nA cA) := by rw [hw0]; unfold World.cell?; rw [heap_alloc_new]; rfl
    have h1 : w0.cell? ⟨w.heap.size, 3, none⟩ = some (.slice aB nB cB) := by rw [hw0]; unfold World.cell?; rw [heap_alloc_new]; rfl
    have h2 : w0.cell? ⟨w.heap.size, 4, none⟩ = some (.int .i64 sg) := by rw [hw0]; unfold World.cell?; rw [heap_alloc_new]; rfl
    exact ⟨cell_bl hW (by omega) h0, cell_bl hW (by omega) h1, cell_bl hW (by omega) h2⟩
  rw [← hw0]
  clear hw0
  obtain ⟨PB, hPB⟩ : ∃ PB, w.heap.size = PB := ⟨_, rfl⟩
  rw [hPB] at hq
  rw [show (⟨w.heap.size, 0, none⟩ : Addr) = ⟨PB, 0, none⟩ by rw [hPB]]
  have HQ := Lib.hid hq
  have HS0 := Lib.hid hs0
  have HPB := Lib.hid hPB
  clear hq hs0 hPB
  obtain ⟨q0, q3, q4⟩ := HQ.out w0 (Below.refl _ _)
  go_upto_region 2 with (fail)
  go_cut [7] (fun v wx => v = .int .i32 (sgnI sg) ∧ wx = w0)
  case first =>
    go_wp2_with (fail)
    go_meet
    exact ⟨by rw [sgn_wrap], rfl⟩
  case rest =>
    obtain ⟨rfl, hwx⟩ := hcut
    have hwx' := hwx.symm
    clear hwx
    subst hwx'
    obtain ⟨s, hs⟩ : ∃ s, sgnI sg = s := ⟨_, rfl⟩
    rw [hs]
    have b0 : Below w0.heap.size w0 (w0.alloc (.cells #[] 21)) := (Below.refl _ _).alloc (Nat.le_refl _) _
    obtain ⟨TA, hTA⟩ : ∃ TA, A.take m = TA := ⟨_, rfl⟩
    have hTl : TA.length = m := by rw [← hTA, List.length_take, HA.out]; omega
    have hdT : Rd .i32 w0 aA TA := by rw [← hTA]; exact (hdA.below hb0).head m
    have hsrc0 := (rd_src hdT b0).imp (fun h => by rwa [hTl] at h) id
    have hs1 := ints_one .i32 TA
    have HM1 := Lib.hid (show (TA.map (Value.int .i32)).length = m * 1 by rw [List.length_map, hTl, Nat.mul_one])
    have HTL := Lib.hid hTl
    have HTA := Lib.hid hTA
    clear hTl hTA hdT eM g1
    have HSG := Lib.hid hs
    clear hs
    go_upto_region 4 with (first
      | (at_builtin; refine wpList_append_src _ rfl (.tmp 23) (.tmp 24) 22 rfl w0.heap.size 21 i5 (.int .i32 0) 1 4 Try.underlying22 hi5 hz5 ha5 hb5 rfl (by decide) _ 0 _ rfl (World.ownsRow_made w0 #[] 0 (Nat.le_refl _) (Nat.zero_le _) (by simp)) aA m cA (TA.map (Value.int .i32)) rfl HM1.out hsrc0 hs1 (by unfold maxLen; omega) (by omega) (by simp) ?_; intro v1 w1 hown1 hg1)
      | (at_builtin; refine wpList_append_own _ rfl (.tmp 25) (.tmp 27) 22 rfl w0.heap.size 21 i5 (.int .i32 0) 1 4 Try.underlying22 hi5 hz5 ha5 hb5 rfl (by decide) _ _ _ rfl (hown1.alloc _) ⟨w1.heap.size, 0, none⟩ 1 1 [.int .i32 s] rfl rfl (World.news_of_block (cs := #[.int .i32 s]) (t := 21) (fr := (0, 0)) (heap_alloc_new _ _)) (by simp [Value.oneCell']) (by unfold maxLen; omega) (by omega) (by have := hg1.size; simp at this ⊢; omega) ?_; intro v2 w2 hown2 hg2 _))
    have hb2 : Below w0.heap.size w0 w2 := ((b0.grown hg1 (by simp) (fun k hk => by cases hk; exact Nat.le_refl _)).alloc (by have := hg1.size; simp at this ⊢; omega) _).grown hg2 (by have := hg1.size; simp at this ⊢; omega) (fun k hk => (hown1.lt k hk).1)
    have hown2' : w2.ownsRow w0.heap.size 21 1 v2 (m + 1) ((TA ++ [s]).map (Value.int .i32)) := by
      rw [Nat.zero_add, List.nil_append] at hown2
      rw [List.map_append]
      exact hown2
    clear hown1 hown2 hg1 hg2 hsrc0 hs1 HM1 b0 q0
    have hbw2 := hb0.trans (hb2.mono hb0.size)
    have HC := Lib.hid (HQT.out w2 (hd.below hbw2))
    have hsz2 := hb2.size
    go_upto_region 5 with (first
      | (go_at_call 41; refine HC.out.mono ?_; rintro e w3 ⟨hb3, Z, za, zc, rfl, hZ, hZQ, hZO⟩; obtain ⟨zn, hzn⟩ : ∃ zn, Z.length = zn := ⟨_, rfl⟩; rw [hzn] at hZ ⊢; have hown3 := own_keep hown2' hb3; have hsrcZ := (rd_src hZO.rd (Below.refl _ _)).imp (fun h => by rwa [hzn] at h) id; have hsZ := ints_one .i32 Z; have HZ1 := Lib.hid (show (Z.map (Value.int .i32)).length = zn * 1 by rw [List.length_map, hzn, Nat.mul_one]); have hsz3 := hb3.size)
      | (at_builtin; refine wpList_append_src _ rfl (.tmp 29) (.tmp 31) 22 rfl w0.heap.size 21 i5 (.int .i32 0) 1 4 Try.underlying22 hi5 hz5 ha5 hb5 rfl (by decide) _ _ _ rfl hown3 za zn zc (Z.map (Value.int .i32)) rfl HZ1.out hsrcZ hsZ (by unfold maxLen; omega) (by omega) (by omega) ?_; intro v4 w4 hown4 hg4)
      | (at_builtin; refine wpList_append_own _ rfl (.tmp 32) (.tmp 33) 22 rfl w0.heap.size 21 i5 (.int .i32 0) 1 4 Try.underlying22 hi5 hz5 ha5 hb5 rfl (by decide) _ _ _ rfl (hown4.alloc _) ⟨w4.heap.size, 0, none⟩ 1 1 [.int .i32 8297] rfl rfl (World.news_of_block (cs := #[.int .i32 8297]) (t := 21) (fr := (0, 0)) (heap_alloc_new _ _)) (by simp [Value.oneCell']) (by unfold maxLen; omega) (by omega) (by have := hg4.size; simp at this ⊢; omega) ?_; intro v5 w5 hown5 hg5 _))
    have z4 := hg4.size
    have hb4 : Below w0.heap.size w0 w4 := (hb2.trans (hb3.mono hb2.size)).grown hg4 (by omega) (fun k hk => (hown3.lt k hk).1)
    have hb5' : Below w0.heap.size w0 w5 := (hb4.alloc (by omega) _).grown hg5 (by simp; omega) (fun k hk => (hown4.lt k hk).1)
    have hown5' : w5.ownsRow w0.heap.size 21 1 v5 (m + 1 + zn + 1) ((TA ++ [s] ++ Z ++ [8297]).map (Value.int .i32)) := by
      rw [List.map_append, List.map_append]
      exact hown5
    clear hown3 hown4 hown5 hg4 hg5 hsrcZ hsZ HZ1 hb4 z4 hZO hown2' HC
    have hbw5 := hb0.trans (hb5'.mono hb0.size)
    obtain ⟨q0, q3, q4⟩ := HQ.out w5 hb5'
    have hsrcB := (rd_src (hdB.below hbw5) (Below.refl _ _)).imp (fun h => by rwa [HB.out] at h) id
    have hsB := ints_one .i32 B
    have HB1 := Lib.hid (show (B.map (Value.int .i32)).length = nB * 1 by rw [List.length_map, HB.out, Nat.mul_one])
    have hsz5 := hb5'.size
    clear q0 q4
    go_wp2_with (at_builtin; refine wpList_append_src _ rfl (.tmp 35) (.tmp 37) 22 rfl w0.heap.size 21 i5 (.int .i32 0) 1 4 Try.underlying22 hi5 hz5 ha5 hb5 rfl (by decide) _ _ _ rfl hown5' aB nB cB (B.map (Value.int .i32)) rfl HB1.out hsrcB hsB (by unfold maxLen; omega) (by omega) (by omega) ?_; intro v6 w6 hown6 hg6)
    have hb6 : Below w0.heap.size w0 w6 := hb5'.grown hg6 (by omega) (fun k hk => (hown5'.lt k hk).1)
    have hown6' : w6.ownsRow w0.heap.size 21 1 v6 (m + 1 + zn + 1 + nB) ((TA ++ s :: (Z ++ 8297 :: B)).map (Value.int .i32)) := by
      have e : TA ++ s :: (Z ++ 8297 :: B) = TA ++ [s] ++ Z ++ [8297] ++ B := by simp
      rw [e, List.map_append]
      exact hown6
    obtain ⟨fa, fc, rfl, hF⟩ := OutAt.of hown6' (by simp [HTL.out, HB.out, hzn]; omega)
    have HF := Lib.hid hF
    clear hF hown6 hown6' hown5' hsrcB hsB hg6
    go_ret2
    rw [← HSG.out, ← HTA.out] at HF
    subst hzn
    exact ⟨hb0.trans (hb6.mono hb0.size), Z, fa, fc, rfl, hZ, hZQ, ownsRow_base HF.out hb0.size⟩

theorem vi_shape {k : IntKind} {e base cap : Nat} {w : World} {a : Option Addr} {out : List Int} (h : OutAt k e w base a cap out) : out.length ≤ cap ∧ cap ≤ 9223372036854775807 := by
  rcases h.2 with ⟨h1, h0⟩ | ⟨g, cap', cur, h1, hb, hg, hc, hm, _⟩
  · simp only [Value.slice.injEq] at h1
    obtain ⟨rfl, h2, rfl⟩ := h1
    exact ⟨by omega, by omega⟩
  · cases h1
    unfold maxLen at hm
    exact ⟨hc, hm⟩
set_option maxRecDepth 100000 in
set_option maxHeartbeats 4000000 in
theorem LawVI_any (aA aI aO aB : Option Addr) (A I O B : List Int) (nA cA nI cI nO cO nB cB : Nat) (sg want : Int) (w : World) (hA : A.length = nA) (hdA : Rd .i32 w aA A) (hI : I.length = nI) (hdI : Rd .i32 w aI I) (hO : O.length = nO) (hdO : Rd .i32 w aO O)
    (hB : B.length = nB) (hdB : Rd .i32 w aB B) (hnA : nA ≤ 1048576) (hnI : nI ≤ 1048576) (hnO : nO ≤ 1048576) (hnB : nB ≤ 1048576) (hcA : nA ≤ cA) :
    Calls Try.prog 9 #[.agg #[.slice aA nA cA, .slice aI nI cI, .slice aO nO cO, .slice aB nB cB, .int .i64 sg], .int .i8 want] w fun e w' => e = .returned (.bool true) ∧ Below w.heap.size w w' := by
  obtain ⟨m, hm⟩ : ∃ m, m = min 50 nA := ⟨_, rfl⟩
  have hm50 : m ≤ 50 := by omega
  have HL1 := Lib.hid (fun W (h : Below w.heap.size w W) => line_any aA aI aO aB aI A B I nA cA nI cI nO cO nB cB nI cI m sg W hA (hdA.below h) hB (hdB.below h) hI (hdI.below h) hnI hnA hnB hm hcA)
  have HL2 := Lib.hid (fun W (h : Below w.heap.size w W) => line_any aA aI aO aB aO A B O nA cA nI cI nO cO nB cB nO cO m sg W hA (hdA.below h) hB (hdB.below h) hO (hdO.below h) hnO hnA hnB hm hcA)
  have hTl : (A.take m).length = m := by rw [List.length_take, hA]; omega
  have HTL := Lib.hid hTl
  have HBL := Lib.hid hB
  obtain ⟨s, hs⟩ : ∃ s, sgnI sg = s := ⟨_, rfl⟩
  have hsd := sgn_dir sg
  rw [hs] at HL1 HL2 hsd
  have HSD := Lib.hid hsd
  obtain ⟨TA, hTA⟩ : ∃ TA, A.take m = TA := ⟨_, rfl⟩
  unfold LinePost at HL1 HL2
  rw [hTA] at HL1 HL2 HTL
  clear hA hI hO hB hm hTl hs hsd hTA
  go_enter Try.func9, Try.ntmps9
  go_upto_region 1 with (fail)
  obtain ⟨w0, hw0⟩ : ∃ w0, w0 = w.alloc (.cells #[.slice aA nA cA, .slice aI nI cI, .slice aO nO cO, .slice aB nB cB, .int .i64 sg] 47) := ⟨_, rfl⟩
  have hb0 : Below w.heap.size w w0 := by rw [hw0]; exact (Below.refl _ _).alloc (Nat.le_refl _) _
  have hs0 : w0.heap.size = w.heap.size + 1 := by rw [hw0, World.size_alloc]
  have hq : ∀ W, Below w0.heap.size w0 W → W.cell? ⟨w.heap.size, 0, none⟩ = some (.slice aA nA cA) ∧ W.cell? ⟨w.heap.size, 1, none⟩ = some (.slice aI nI cI) ∧ W.cell? ⟨w.heap.size, 2, none⟩ = some (.slice aO nO cO) ∧ W.cell? ⟨w.heap.size, 3, none⟩ = some (.slice aB nB cB) ∧ W.cell? ⟨w.heap.size, 4, none⟩ = some (.int .i64 sg) := fun W hW => by
    have h0 : w0.cell? ⟨w.heap.size, 0, none⟩ = some (.slice aA nA cA) := by rw [hw0]; unfold World.cell?; rw [heap_alloc_new]; rfl
    have h1 : w0.cell? ⟨w.heap.size, 1, none⟩ = some (.slice aI nI cI) := by rw [hw0]; unfold World.cell?; rw [heap_alloc_new]; rfl
    have h2 : w0.cell? ⟨w.heap.size, 2, none⟩ = some (.slice aO nO cO) := by rw [hw0]; unfold World.cell?; rw [heap_alloc_new]; rfl
    have h3 : w0.cell? ⟨w.heap.size, 3, none⟩ = some (.slice aB nB cB) := by rw [hw0]; unfold World.cell?; rw [heap_alloc_new]; rfl
    have h4 : w0.cell? ⟨w.heap.size, 4, none⟩ = some (.int .i64 sg) := by rw [hw0]; unfold World.cell?; rw [heap_alloc_new]; rfl
    exact ⟨cell_bl hW (by omega) h0, cell_bl hW (by omega) h1, cell_bl hW (by omega) h2, cell_bl hW (by omega) h3, cell_bl hW (by omega) h4⟩
  rw [← hw0]
  clear hw0
  obtain ⟨PB, hPB⟩ : ∃ PB, w.heap.size = PB := ⟨_, rfl⟩
  rw [hPB] at hq
  rw [show (⟨w.heap.size, 0, none⟩ : Addr) = ⟨PB, 0, none⟩ by rw [hPB]]
  have HQ := Lib.hid hq
  have HS0 := Lib.hid hs0
  have HPB := Lib.hid hPB
  clear hq hs0 hPB
  obtain ⟨q0, q1, q2, q3, q4⟩ := HQ.out w0 (Below.refl _ _)
  have HC1 := Lib.hid (HL1.out w0 hb0)
  go_upto_region 2 with (go_at_call 27; refine HC1.out.mono ?_; rintro e w1 ⟨hb1, Z1, xa, xc, rfl, hZ1, hQ1, hX⟩; obtain ⟨N1, hN1⟩ : ∃ N1, m + 1 + Z1.length + 1 + nB = N1 := ⟨_, rfl⟩; rw [hN1])
  have hb01 := hb0.trans (hb1.mono hb0.size)
  have HC2 := Lib.hid (HL2.out w1 hb01)
  clear q0 q1 q2 q3 q4 HC1 HL1 HL2
  obtain ⟨q0, q1, q2, q3, q4⟩ := HQ.out w1 hb1
  go_upto_region 3 with (go_at_call 27; refine HC2.out.mono ?_; rintro e w2 ⟨hb2, Z2, ya, yc, rfl, hZ2, hQ2, hY⟩; obtain ⟨N2, hN2⟩ : ∃ N2, m + 1 + Z2.length + 1 + nB = N2 := ⟨_, rfl⟩; rw [hN2])
  have hb02 := hb1.trans (hb2.mono hb1.size)
  have hT50 : TA.length ≤ 50 := by rw [HTL.out]; exact hm50
  have hiso := iso_two TA B Z1 Z2 s 8297 want hT50 HSD.out (by decide +kernel) hQ1 hQ2
  have hx2 := hX.keep hb2
  obtain ⟨X0, hX0⟩ : ∃ X0, TA ++ s :: (Z1 ++ 8297 :: B) = X0 := ⟨_, rfl⟩
  obtain ⟨Y0, hY0⟩ : ∃ Y0, TA ++ s :: (Z2 ++ 8297 :: B) = Y0 := ⟨_, rfl⟩
  rw [hX0, hY0] at hiso
  rw [hX0] at hx2
  rw [hY0] at hY
  have hXl : X0.length = N1 := by rw [← hX0, ← hN1]; simp [HTL.out, HBL.out]; omega
  have hYl : Y0.length = N2 := by rw [← hY0, ← hN2]; simp [HTL.out, HBL.out]; omega
  have hxs := vi_shape hx2
  have hys := vi_shape hY
  rw [hXl] at hxs
  rw [hYl] at hys
  have hV1 := VLevels_any xa X0 N1 xc want w2 hXl hx2.rd (by omega) hxs.1 hxs.2
  have HV2 := Lib.hid (fun W (h : Below w2.heap.size w2 W) => VLevels_any ya Y0 N2 yc want W hYl (hY.rd.below h) (by omega) hys.1 hys.2)
  unfold VLPost at hV1 HV2
  rw [hiso.1] at hV1
  obtain ⟨LX, hLX⟩ : ∃ LX, (visualI X0 want).1 = LX := ⟨_, rfl⟩
  obtain ⟨LY, hLY⟩ : ∃ LY, (visualI Y0 want).1 = LY := ⟨_, rfl⟩
  obtain ⟨bs, hbs⟩ : ∃ bs, (visualI Y0 want).2 = bs := ⟨_, rfl⟩
  rw [hLX, hbs] at hV1
  rw [hLY, hbs] at HV2
  rw [hLX, hLY] at hiso
  have HI1 := Lib.hid hiso.2.1
  have HI2 := Lib.hid hiso.2.2
  have HV1 := Lib.hid hV1
  have HN1 := Lib.hid hN1
  have HN2 := Lib.hid hN2
  have HT := HTL.out
  rw [HT] at HI1 HI2
  rw [HBL.out] at HI2
  clear q0 q1 q2 q3 q4 HC2 hiso hx2 hX hY hX0 hY0 hXl hYl hxs hys hV1 hLX hLY hbs hb01 hN1 hN2 HT hT50 hdA hdI hdO hdB HSD hQ1 hQ2
  go_upto_region 4 with (go_at_call 25; refine HV1.out.mono ?_; rintro e w3 ⟨ua, uc, rfl, hUl, hU, hb3⟩)
  go_upto_region 5 with (go_at_call 25; refine (HV2.out w3 hb3).mono ?_; rintro e w4 ⟨va, vc, rfl, hVl, hV, hb4⟩)
  have hb24 := hb3.trans (hb4.mono hb3.size)
  have hb04 := hb02.trans (hb24.mono hb02.size)
  have HU := Lib.hid (hU.keep hb4)
  have HV := Lib.hid hV
  have HB04 := Lib.hid hb04
  have HUL := Lib.hid hUl
  have HVL := Lib.hid hVl
  clear hU hV hb1 hb2 hb3 hb4 hb02 hb24 hb04 HV1 HV2 hUl hVl
  go_upto_block 0 with (fail)
  go_cut [13] (fun _ wx => ∃ k, wx = w4.drewN k)
  case first =>
    go_wp2_with (fail)
    go_loopw [13] (fun u wx => ∃ i k : Nat, i ≤ m + 1 ∧ u = .int .i64 i ∧ wx = w4.drewN k) (fun u _ => m + 1 - (intOf u).toNat)
    case atStart => exact ⟨0, 0, by omega, rfl, rfl⟩
    case round =>
      obtain ⟨i, k, hi, rfl, rfl⟩ := hrel
      by_cases him : i ≤ m
      · have hn1 := HN1.out
        have hn2 := HN2.out
        have hbk : Below w4.heap.size w4 (w4.drewN k) := bl_drewN (Below.refl _ _) k
        obtain ⟨G1, rfl, _, _, hc1, _⟩ := HU.out.at i (by rw [ints_len, HUL.out]; omega)
        obtain ⟨G2, rfl, _, _, hc2, _⟩ := HV.out.at i (by rw [ints_len, HVL.out]; omega)
        have he := HI1.out i him
        rw [ith_ints] at hc1 hc2
        rw [← he] at hc2
        generalize LX.getD i 0 = v at hc1 hc2
        have g0 : (0 : Int) ≤ (i : Int) := by omega
        have g1 : (i : Int) < (N1 : Int) := by omega
        have g2 : (i : Int) < (N2 : Int) := by omega
        have g3 : (i : Int) ≤ (m : Int) := by omega
        clear hn1 hn2 he
        go_wp2_with (fail)
        go_quiet (fail)
        go_wp2_with (fail)
        go_roundw
        case rel => exact ⟨i + 1, _, by omega, by go_num, rfl⟩
        case measure => simp [intOf]; omega
      · have g3 : ¬ (i : Int) ≤ (m : Int) := by omega
        go_wp2_with (fail)
        go_meet
        exact ⟨_, rfl⟩
  case rest =>
    obtain ⟨k0, rfl⟩ := hcut
    go_wp2_with (fail)
    go_loopw [14] (fun u wx => ∃ i k : Nat, 1 ≤ i ∧ i ≤ nB + 2 ∧ u = .int .i64 i ∧ wx = w4.drewN k) (fun u _ => nB + 2 - (intOf u).toNat)
    case atStart => exact ⟨1, k0, by omega, by omega, rfl, rfl⟩
    case round =>
      obtain ⟨i, k, hi1, hi2, rfl, rfl⟩ := hrel
      have hbk : Below w4.heap.size w4 (w4.drewN k) := bl_drewN (Below.refl _ _) k
      obtain ⟨q0, q1, q2, q3, q4⟩ := HQ.out w4 HB04.out
      have ew : wrap64 ((nB : Int) + 1) = (nB : Int) + 1 := Go.IntWalk.wrap64_in _ (by omega)
      clear q0 q1 q2 q4
      by_cases him : i ≤ nB + 1
      · have hn1 := HN1.out
        have hn2 := HN2.out
        obtain ⟨p1, hp1⟩ : ∃ p1, m + 2 + nB + Z1.length - i = p1 := ⟨_, rfl⟩
        obtain ⟨p2, hp2⟩ : ∃ p2, m + 2 + nB + Z2.length - i = p2 := ⟨_, rfl⟩
        obtain ⟨G1, rfl, _, _, hc1, _⟩ := HU.out.at p1 (by rw [ints_len, HUL.out]; omega)
        obtain ⟨G2, rfl, _, _, hc2, _⟩ := HV.out.at p2 (by rw [ints_len, HVL.out]; omega)
        have he := HI2.out i hi1 him
        rw [hp1, hp2] at he
        rw [ith_ints] at hc1 hc2
        rw [← he] at hc2
        generalize LX.getD p1 0 = v at hc1 hc2
        have e1 : wrap64 ((N1 : Int) - (i : Int)) = (p1 : Int) := by rw [Go.IntWalk.wrap64_in _ (by omega)]; omega
        have e2 : wrap64 ((N2 : Int) - (i : Int)) = (p2 : Int) := by rw [Go.IntWalk.wrap64_in _ (by omega)]; omega
        have g0 : (0 : Int) ≤ (p1 : Int) := by omega
        have g00 : (0 : Int) ≤ (p2 : Int) := by omega
        have g1 : (p1 : Int) < (N1 : Int) := by omega
        have g2 : (p2 : Int) < (N2 : Int) := by omega
        have g3 : (i : Int) ≤ (nB : Int) + 1 := by omega
        clear hn1 hn2 he hp1 hp2
        go_wp2_with (fail)
        go_quiet (fail)
        go_wp2_with (fail)
        go_roundw
        case rel => exact ⟨i + 1, _, by omega, by omega, by go_num, rfl⟩
        case measure => simp [intOf]; omega
      · have g3 : ¬ (i : Int) ≤ (nB : Int) + 1 := by omega
        go_wp2_with (go_at_call 16; refine (wakes_any _).mono ?_; rintro e w6 ⟨rfl, hb6⟩)
        go_ret
        have h1 := HB04.out.trans (hbk.mono HB04.out.size)
        have h2 := hb0.trans (h1.mono hb0.size)
        exact ⟨rfl, h2.trans (hb6.mono h2.size)⟩
end Go.Proofs.Ytbhhebheclfdlaa
