/- Contracts of the laws' helpers kept, pairs, stay of layer 9. -/
import Derived.Test.YtgalccfhofimaaaRefBrk
import Derived.Laws.StructEq
namespace Go.Proofs.Ytgalccfhofimaaa
set_option linter.unusedVariables false
set_option linter.unusedSimpArgs false
open Go.RowKit

theorem brkF_len (rs ks : List Int) : ∀ (m i : Nat) (st : List (Nat × Int)) (out : List (Nat × Nat)), (brkF rs ks m i st out).length ≤ out.length + m
  | 0, i, st, out => by rw [brkF]; omega
  | m + 1, i, st, out => by
    unfold brkF
    split
    · have := brkF_len rs ks m (i + 1) st out; omega
    · split
      · split
        · omega
        · have := brkF_len rs ks m (i + 1) (st ++ [(i, (pairI (ith rs i)).1)]) out; omega
      · split
        · have := brkF_len rs ks m (i + 1) st out; omega
        · rename_i k _
          have := brkF_len rs ks m (i + 1) (st.take k) (out ++ [((st.getD k (0, 0)).1, i)])
          rw [List.length_append, List.length_singleton] at this
          omega
theorem grownBy_trans {w w1 w2 : World} {row : Option Nat} (h1 : w.grownBy w1 row) (h2 : w1.grownBy w2 row) : w.grownBy w2 row :=
  ⟨h2.os.trans h1.os, h2.tape.trans h1.tape, h2.output.trans h1.output, Nat.le_trans h1.size h2.size, fun k hk hne => (h2.block k (Nat.lt_of_lt_of_le hk h1.size) hne).trans (h1.block k hk hne)⟩
theorem own_frozen {w : World} {base e size n cap G : Nat} {xs : List Value} (h : w.ownsRow base e size (.slice (some ⟨G, 0, none⟩) n cap) n xs) (i : Nat) : w.frozen? ⟨G, i, none⟩ = false := by
  rcases h.2 with ⟨h1, h0⟩ | ⟨g, cap', cur, h1, hb, hh, hc, hm, hs, ht⟩
  · simp at h1
  · simp only [Value.slice.injEq, Option.some.injEq, Addr.mk.injEq, and_true, true_and] at h1
    obtain ⟨rfl, rfl⟩ := h1
    simp [World.frozen?, hh]
theorem PairsAt.low {w : World} {base base' cap : Nat} {pa : Option Addr} {l : List (Nat × Nat)} (h : PairsAt w base pa cap l) (hb : base' ≤ base) : PairsAt w base' pa cap l := ownsRow_base h hb
theorem row_grown {w w' : World} {base e size n : Nat} {v : Value} {xs : List Value} {row : Option Nat} (h : w.ownsRow base e size v n xs) (hg : w.grownBy w' row) (hne : ∀ i j, v.ownBlock = some i → row = some j → i ≠ j) : w'.ownsRow base e size v n xs := by
  refine World.ownsRow.kept h hg ?_
  cases hv : v.ownBlock with
  | none => exact .inl rfl
  | some i => exact .inr fun e => hne i i hv e.symm rfl

theorem Try.info_i32 : (Try.prog.info? 21).map (fun i => (i.zero, i.size, i.bytes)) = some (some (.int .i32 0), 1, 4) := by kernel_rfl
theorem Try.info_i8 : (Try.prog.info? 33).map (fun i => (i.zero, i.size, i.bytes)) = some (some (.int .i8 0), 1, 1) := by kernel_rfl
def KeptPost (rs ks : List Int) (w : World) (e : Ending) (w' : World) : Prop :=
  ∃ a1 c1 a2 c2, e = .returned (.tuple #[.slice a1 rs.length c1, .slice a2 ks.length c2]) ∧ OutAt .i32 21 w' w.heap.size a1 c1 (rs ++ [7, 7]) ∧ OutAt .i8 33 w' w.heap.size a2 c2 (ks ++ [77, 77]) ∧ Below w.heap.size w w'
theorem rd_src {k : IntKind} {w w' : World} {a : Option Addr} {xs : List Int} (h : Rd k w a xs) (hb : Below w.heap.size w w') :
    xs.length = 0 ∨ ∃ ad, a = some ad ∧ ∀ j u, (xs.map (Value.int k))[j]? = some u → w'.cell? (ad.add j) = some u := by
  rcases h with h | ⟨b, off, h1, h2, h3⟩
  · subst h; exact .inl rfl
  · refine .inr ⟨_, h1, fun j u hu => ?_⟩
    rw [List.getElem?_map] at hu
    cases hx : xs[j]? with
    | none => rw [hx] at hu; cases hu
    | some x =>
      have hj : j < xs.length := (List.getElem?_eq_some_iff.1 hx).1
      rw [ith_get hj] at hu
      simp only [Option.map_some, Option.some.injEq] at hu
      rw [Addr.add_lit, ← hu]
      exact cell_bl hb h2 (h3 j hj)
theorem ints_one (k : IntKind) (xs : List Int) : ∀ u ∈ xs.map (Value.int k), u.oneCell' = true := fun u hu => by
  obtain ⟨x, _, rfl⟩ := List.mem_map.1 hu; rfl

theorem out_cap' {k : IntKind} {e base cap : Nat} {w : World} {ao : Option Addr} {out : List Int} (h : OutAt k e w base ao cap out) : out.length ≤ cap := by
  obtain ⟨a, c, h1, h2, _⟩ := own_slice h
  simp only [Value.slice.injEq] at h1
  omega
set_option maxRecDepth 100000 in
set_option maxHeartbeats 1000000 in
theorem kept_any (ra ka : Option Addr) (rs ks : List Int) (rc kc : Nat) (w : World) (hr : Rd .i32 w ra rs) (hk : Rd .i8 w ka ks) (hrn : rs.length ≤ 2097152) (hkn : ks.length ≤ 2097152) :
    Calls Try.prog 8 #[.slice ra rs.length rc, .slice ka ks.length kc] w (KeptPost rs ks w) := by
  obtain ⟨i21, hi21, hz21, ha21, hb21⟩ := info_parts (Try.info_i32)
  obtain ⟨i33, hi33, hz33, ha33, hb33⟩ := info_parts (Try.info_i8)
  go_enter Try.func8, Try.ntmps8
  go_upto_region 4 with (at_builtin; refine wpList_append_src _ rfl (.tmp 8) (.tmp 9) 22 rfl w.heap.size 21 i21 _ 1 4 Try.underlying22 hi21 hz21 ha21 hb21 rfl (by omega) (.slice none 0 0) 0 [] rfl (World.ownsRow_nil _ _ _ _) ra rs.length rc (rs.map (Value.int .i32)) rfl (by simp) (rd_src hr (Below.refl _ _)) (ints_one _ _) (by unfold maxLen; omega) (by omega) (Nat.le_refl _) ?_; intro v1 w1 hown1 hg1)
  rw [Nat.zero_add, List.nil_append] at hown1
  have hb1 := (Below.refl w.heap.size w).grown hg1 (Nat.le_refl _) (fun k hk => by cases hk)
  clear hg1
  go_upto_region 5 with (at_builtin; refine wpList_append_src _ rfl (.tmp 11) (.tmp 12) 23 rfl w1.heap.size 33 i33 _ 1 1 Try.underlying23 hi33 hz33 ha33 hb33 rfl (by omega) (.slice none 0 0) 0 [] rfl (World.ownsRow_nil _ _ _ _) ka ks.length kc (ks.map (Value.int .i8)) rfl (by simp) (rd_src hk hb1) (ints_one _ _) (by unfold maxLen; omega) (by omega) (Nat.le_refl _) ?_; intro v2 w2 hown2 hg2)
  rw [Nat.zero_add, List.nil_append] at hown2
  have hbx := (Below.refl w1.heap.size w1).grown hg2 (Nat.le_refl _) (fun k hk => by cases hk)
  have hb2 := hb1.trans (hbx.mono hb1.size)
  have hown1' := ownsRow_keep hown1 hbx
  have hdis : ∀ k, v2.ownBlock = some k → ∀ j, v1.ownBlock = some j → j < k := fun k hk j hj => by
    have h1 := (hown2.lt k hk).1
    have h2 := (hown1.lt j hj).2
    omega
  have hs12 : w1.heap.size ≤ w2.heap.size := hg2.size
  clear hg2 hown1 hbx
  have hs2 := hb2.size
  go_upto_region 6 with (at_builtin; refine wpList_append_own_at _ rfl (.tmp 14) (.tmp 15) 22 rfl w.heap.size 21 i21 _ 1 4 Try.underlying22 hi21 hz21 ha21 hb21 rfl (by omega) v1 rs.length _ rfl (hown1'.alloc _) ⟨w2.heap.size, 0, none⟩ 2 2 [.int .i32 7, .int .i32 7] rfl rfl (World.news_of_block (cs := #[.int .i32 7, .int .i32 7]) (t := 21) (fr := (0, 0)) (heap_alloc_new _ _)) (by simp [Value.oneCell']) (by unfold maxLen; omega) (by omega) (by simp; omega) ?_; intro v3 w3 hown3 hg3 _ hloc)
  have hown2' : w3.ownsRow w1.heap.size 33 1 v2 ks.length (ks.map (Value.int .i8)) := by
    refine (hown2.alloc _).kept hg3 ?_
    cases hv : v2.ownBlock with
    | none => exact .inl rfl
    | some k => exact .inr (fun e => by have := hdis k hv k e.symm; omega)
  have hdis3 : ∀ k, v2.ownBlock = some k → v3.ownBlock ≠ some k := fun k hk e => by
    rcases hloc with h | h
    · have := hdis k hk k (h ▸ e); omega
    · have h2 := (hown2.lt k hk).2
      rw [e, World.size_alloc] at h
      cases h
      omega
  have hb3 := (hb2.alloc hs2 _).grown hg3 (by simp; omega) (fun k hk => (hown1'.lt k hk).1)
  have hs3 := hb3.size
  have hs31 : w1.heap.size ≤ w3.heap.size := by have h1 := hg3.size; rw [World.size_alloc] at h1; omega
  clear hg3 hloc hdis hown1' hown2 hb2
  go_upto_region 7 with (at_builtin; refine wpList_append_own _ rfl (.tmp 17) (.tmp 18) 23 rfl w1.heap.size 33 i33 _ 1 1 Try.underlying23 hi33 hz33 ha33 hb33 rfl (by omega) v2 ks.length _ rfl (hown2'.alloc _) ⟨w3.heap.size, 0, none⟩ 2 2 [.int .i8 77, .int .i8 77] rfl rfl (World.news_of_block (cs := #[.int .i8 77, .int .i8 77]) (t := 33) (fr := (0, 0)) (heap_alloc_new _ _)) (by simp [Value.oneCell']) (by unfold maxLen; omega) (by omega) (by simp; omega) ?_; intro v4 w4 hown4 hg4 _)
  have hown3' : w4.ownsRow w.heap.size 21 1 v3 (rs ++ [7, 7]).length ((rs ++ [7, 7]).map (Value.int .i32)) := by
    have e1 : (rs ++ [7, 7]).length = rs.length + 2 := by simp
    have e2 : (rs ++ [7, 7]).map (Value.int .i32) = rs.map (Value.int .i32) ++ [.int .i32 7, .int .i32 7] := by simp
    rw [e1, e2]
    refine (hown3.alloc _).kept hg4 ?_
    cases hv : v3.ownBlock with
    | none => exact .inl rfl
    | some k => exact .inr (fun e => hdis3 k e.symm hv)
  have hown4' : w4.ownsRow w.heap.size 33 1 v4 (ks ++ [77, 77]).length ((ks ++ [77, 77]).map (Value.int .i8)) := by
    have e1 : (ks ++ [77, 77]).length = ks.length + 2 := by simp
    have e2 : (ks ++ [77, 77]).map (Value.int .i8) = ks.map (Value.int .i8) ++ [.int .i8 77, .int .i8 77] := by simp
    rw [e1, e2]
    exact ownsRow_base hown4 hb1.size
  have hb4 := (hb3.alloc hs3 _).grown hg4 (by simp; omega) (fun k hk => by have h1 := (hown2'.lt k hk).1; have h2 := hb1.size; omega)
  clear hown3 hown4 hg4 hdis3 hb3
  obtain ⟨a1, c1, hv3, hO1⟩ := OutAt.of hown3' rfl
  obtain ⟨a2, c2, hv4, hO2⟩ := OutAt.of hown4' rfl
  have hc1 := out_cap' hO1
  have hc2 := out_cap' hO2
  rw [List.length_append] at hv3 hv4 hc1 hc2
  simp only [List.length_cons, List.length_nil] at hv3 hv4 hc1 hc2
  subst hv3 hv4
  have g1 : (rs.length : Int) ≤ (c1 : Int) := by omega
  have g2 : (ks.length : Int) ≤ (c2 : Int) := by omega
  have HO1 := Lib.hid hO1
  have HO2 := Lib.hid hO2
  have HB4 := Lib.hid hb4
  clear hO1 hO2 hb4 hown3' hown4' hr hk
  go_wp2_with (fail)
  go_quiet (fail)
  go_wp2_with (fail)
  go_ret2
  exact ⟨a1, c1, a2, c2, rfl, HO1.out, HO2.out, bl_drewN HB4.out _⟩

theorem Try.eq_two (a b c d : Int) (w : World) : (Op.equalIn 10000 29 (.agg #[.int .i64 a, .int .i64 b]) (.agg #[.int .i64 c, .int .i64 d])).run Try.prog w = .ok (a == c && b == d) w := by
  have u3 := Try.underlying3
  have a3 := Try.isAgg3
  have z3 := Try.sizeOf3
  rw [show (10000 : Nat) = 9999 + 1 from rfl, Op.equalIn]
  simp only [Sem.run_bind, run_underlying Try.underlying29, Result.andThen_ok]
  simp only [Std.Legacy.Range.forIn_eq_forIn_range', Std.Legacy.Range.size, Nat.sub_zero, Nat.add_sub_cancel, Nat.div_one, List.range'_succ, List.range'_zero, List.forIn_cons, List.forIn_nil]
  go_simp
  by_cases h1 : a = c <;> by_cases h2 : b = d <;> simp [h1, h2]
set_option maxHeartbeats 1000000 in
theorem pairs_same (pa pb : Option Addr) (ca cb b1 b2 : Nat) (l : List (Nat × Nat)) (n : Nat) (w : World) (hn : l.length = n) (ha : PairsAt w b1 pa ca l) (hb : PairsAt w b2 pb cb l) (hl : n ≤ 2097152) :
    Calls Try.prog 11 #[.slice pa n ca, .slice pb n cb] w fun e w' => e = .returned (.bool true) ∧ ∃ m, w' = w.drewN m := by
  subst hn
  go_enter Try.func11, Try.ntmps11
  go_wp2_with (fail)
  go_loopw [5] (fun c wx => ∃ (i m : Nat), i ≤ l.length ∧ c = .int .i64 i ∧ wx = w.drewN m) (fun c _ => l.length - (intOf c).toNat)
  case atStart => exact ⟨0, 0, by omega, rfl, rfl⟩
  case round =>
    obtain ⟨i, m, hi, rfl, rfl⟩ := hrel
    by_cases hlt : i < l.length
    · obtain ⟨G1, rfl, _, _, hc0, hc1⟩ := ha.at i hlt
      obtain ⟨G2, rfl, _, _, hd0, hd1⟩ := hb.at i hlt
      generalize l.getD i (0, 0) = x at hc0 hc1 hd0 hd1
      have heq : ∀ w, _ := fun w => Try.eq_two x.1 x.2 x.1 x.2 w
      simp only [beq_self_eq_true, Bool.and_self] at heq
      go_wp2_with (fail)
      go_quiet (fail)
      go_wp2_with (fail)
      go_roundw
      case rel => exact ⟨i + 1, _, by omega, by go_num, rfl⟩
      case measure => simp [intOf]; omega
    · go_wp2_with (fail)
      go_ret
      exact ⟨rfl, _, rfl⟩

theorem ith_app {xs ys : List Int} (i : Nat) : ith (xs ++ ys) (xs.length + i) = ith ys i ∧ (i < xs.length → ith (xs ++ ys) i = ith xs i) := by
  unfold ith
  rw [List.getD_eq_getElem?_getD, List.getD_eq_getElem?_getD, List.getD_eq_getElem?_getD, List.getD_eq_getElem?_getD]
  refine ⟨by rw [List.getElem?_append_right (by omega), Nat.add_sub_cancel_left], fun h => by rw [List.getElem?_append_left h]⟩

set_option maxHeartbeats 1000000 in
theorem stay_any (ra ka a1 a2 : Option Addr) (rs ks : List Int) (rc kc c1 c2 b1 b2 : Nat) (w : World) (hr : Rd .i32 w ra rs) (hk : Rd .i8 w ka ks) (h1 : OutAt .i32 21 w b1 a1 c1 (rs ++ [7, 7])) (h2 : OutAt .i8 33 w b2 a2 c2 (ks ++ [77, 77]))
    (hrn : rs.length ≤ 2097152) (hkn : ks.length ≤ 2097152) :
    Calls Try.prog 12 #[.slice a1 rs.length c1, .slice a2 ks.length c2, .slice ra rs.length rc, .slice ka ks.length kc] w fun e w' => e = .returned (.bool true) ∧ ∃ m, w' = w.drewN m := by
  have hc1 := out_cap' h1
  have hc2 := out_cap' h2
  rw [List.length_append] at hc1 hc2
  simp only [List.length_cons, List.length_nil] at hc1 hc2
  have e1 := h1.at rs.length (by simp)
  have e2 := h1.at (rs.length + 1) (by simp)
  have e3 := h2.at ks.length (by simp)
  have e4 := h2.at (ks.length + 1) (by simp)
  rw [show ith (rs ++ [7, 7]) rs.length = 7 from (ith_app (xs := rs) (ys := [7, 7]) 0).1] at e1
  rw [show ith (rs ++ [7, 7]) (rs.length + 1) = 7 from (ith_app (xs := rs) (ys := [7, 7]) 1).1] at e2
  rw [show ith (ks ++ [77, 77]) ks.length = 77 from (ith_app (xs := ks) (ys := [77, 77]) 0).1] at e3
  rw [show ith (ks ++ [77, 77]) (ks.length + 1) = 77 from (ith_app (xs := ks) (ys := [77, 77]) 1).1] at e4
  obtain ⟨G1, rfl, _, _, f1, _, _, hm1⟩ := e1
  obtain ⟨G1', hG1, _, _, f2, _⟩ := e2
  cases hG1
  obtain ⟨G2, rfl, _, _, f3, _, _, hm2⟩ := e3
  obtain ⟨G2', hG2, _, _, f4, _⟩ := e4
  cases hG2
  unfold maxLen at hm1 hm2
  have g1 : (rs.length : Int) + 2 ≤ (c1 : Int) := by omega
  have g2 : (ks.length : Int) + 2 ≤ (c2 : Int) := by omega
  have H1 := Lib.hid h1
  have H2 := Lib.hid h2
  clear h1 h2
  go_enter Try.func12, Try.ntmps12
  go_wp2_with (fail)
  go_loopw [11] (fun c wx => ∃ (i m : Nat), i ≤ rs.length ∧ c = .int .i64 i ∧ wx = w.drewN m) (fun c _ => rs.length - (intOf c).toNat)
  case atStart => exact ⟨0, 0, by omega, rfl, rfl⟩
  case round =>
    obtain ⟨i, m, hi, rfl, rfl⟩ := hrel
    by_cases hlt : i < rs.length
    · obtain ⟨rb, ro, rfl, _, hc⟩ := hr.at (Below.refl _ _) i hlt
      obtain ⟨G, hG, _, _, hd, _⟩ := H1.out.at i (by simp; omega)
      cases hG
      rw [(ith_app (xs := rs) (ys := [7, 7]) i).2 hlt] at hd
      generalize ith rs i = x at hc hd
      go_wp2_with (fail)
      go_quiet (fail)
      go_wp2_with (fail)
      go_roundw
      case rel => exact ⟨i + 1, _, by omega, by go_num, rfl⟩
      case measure => simp [intOf]; omega
    · go_wp2_with (fail)
      go_loopw [12] (fun c wx => ∃ (i m : Nat), i ≤ ks.length ∧ c = .int .i64 i ∧ wx = w.drewN m) (fun c _ => ks.length - (intOf c).toNat)
      case atStart => exact ⟨0, _, by omega, rfl, rfl⟩
      case round =>
        obtain ⟨i, m, hi, rfl, rfl⟩ := hrel
        by_cases hlt : i < ks.length
        · obtain ⟨kb, ko, rfl, _, hc⟩ := hk.at (Below.refl _ _) i hlt
          obtain ⟨G, hG, _, _, hd, _⟩ := H2.out.at i (by simp; omega)
          cases hG
          rw [(ith_app (xs := ks) (ys := [77, 77]) i).2 hlt] at hd
          generalize ith ks i = x at hc hd
          go_wp2_with (fail)
          go_quiet (fail)
          go_wp2_with (fail)
          go_roundw
          case rel => exact ⟨i + 1, _, by omega, by go_num, rfl⟩
          case measure => simp [intOf]; omega
        · go_wp2_with (fail)
          go_ret
          exact ⟨rfl, _, rfl⟩
end Go.Proofs.Ytgalccfhofimaaa
