/- Part 32 of the proof (merged by a program out of the texts BadC, JoinT, JoinA): lemmas of no further condition than each states. -/
import Derived.Lib.OthersKept
import Derived.Test.YtlbclfmbejjneaaGreatDoorJ30
namespace Go.Proofs.YtlbclfmbejjneaaGreatDoor
set_option linter.unusedVariables false
set_option linter.unusedSimpArgs false
section
open Go.RowKit Go.Proofs Go.Shelf
theorem iter_own {k : IntKind} {e base cap : Nat} {w : World} {ao : Option Addr} {out : List Int} (h : OutAt k e w base ao cap out) {B : Nat} {s : ByteArray} {pos : Nat} (hB : B < base) (pos' : Nat) (hs : w.heap[B]? = some (.stringIter s pos)) : OutAt k e (w.iterAt B s pos') base ao cap out := by
 refine ⟨h.1, ?_⟩
 rcases h.2 with hn | ⟨g, c, cur, h1, h2, h3, h4⟩
 ·exact .inl hn
 ·exact .inr ⟨g, c, cur, h1, h2, (Lib.iterAt_other w B g s pos' (by omega)).trans h3, h4⟩
theorem bad_step (s : ByteArray) (pos : Nat) (h : pos < s.size) : badF s (s.size - pos) pos = ((decide (((Utf8.decode s pos).1 : Int) = 65533) && decide ((Utf8.decode s pos).2 = 1)) || badF s (s.size - (pos + (Utf8.decode s pos).2)) (pos + (Utf8.decode s pos).2)) := by
 obtain ⟨k, hk⟩ : ∃ k, s.size - pos = k + 1 := ⟨s.size - pos - 1, by omega⟩
 have hp := Lib.decode_width_pos s pos h
 rw [hk, badF, if_pos h]
 congr 1
 exact badF_fuel s _ _ _ (by omega) (by omega)
set_option maxRecDepth 100000 in
set_option maxHeartbeats 1000000 in
theorem Bad_any (s : ByteArray) (hs : s.size ≤ 2097152) (w : World) (hT : T8 w) :
 Calls Tryz.prog 80 #[.string s] w fun e w' => ∃ a n c, e = .returned (.slice a n c) ∧ (n = 0 ↔ badI s = false) ∧ Below w.heap.size w w' := by
 obtain ⟨i0, hi0, hz0, hz1, hz2⟩ := info_parts (Tryz.info_int)
 go_enter Tryz.func80, Tryz.ntmps80
 go_wp2_with (fail)
 refine wp_scope_straight ?_
 go_wp2_with (fail)
 refine wp_label ?_
 go_wp2_with (fail)
 obtain ⟨B0, hB0⟩ : ∃ B0, w.heap.size = B0 := ⟨_, rfl⟩
 have hx0 : (w.iter s 0).heap[B0]? = some (.stringIter s 0) := by rw [← hB0]; exact World.iter_heap w s 0
 have hb0 : Below B0 w (w.iter s 0) := by rw [← hB0]; exact (Below.refl _ _).alloc (Nat.le_refl _) _
 generalize w.iter s 0 = W0 at hx0 hb0 ⊢
 rw [hB0]
 go_loopw [3, 4, 5, 6, 7, 14] (fun u3 _ _ _ _ _ wx => ∃ (pos : Nat) (out : List Int) (a : Option Addr) (c : Nat), pos ≤ s.size ∧ out.length ≤ pos ∧ u3 = .slice a out.length c ∧ wx.heap[B0]? = some (.stringIter s pos) ∧ OutAt .i64 3 wx (B0 + 1) a c out ∧ Below B0 w wx ∧
  ((out = [] ∧ badF s (s.size - pos) pos = badI s) ∨ (out ≠ [] ∧ badI s = true))) (fun _ _ _ _ _ _ wx => s.size - wx.iterPos B0)
 case atStart => exact ⟨0, [], none, 0, by omega, by simp, rfl, hx0, World.ownsRow_nil _ _ _ _, hb0, .inl ⟨rfl, by rw [Nat.sub_zero]; rfl⟩⟩
 case round =>
  obtain ⟨pos, out, a, c, hp, hol, rfl, hit, hO, hbel, hbad⟩ := hrel
  have hip : wr.iterPos B0 = pos := by simp [World.iterPos, hit]
  clear hx0 hb0
  by_cases hlt : pos < s.size
  ·have hnx := fun ty => Lib.run_next_any_at (P := Tryz.prog) wr B0 s pos ty hit hlt
   have hstep := bad_step s pos hlt
   have hdp := Lib.decode_width_pos s pos hlt
   have hdg : Lib.decodeGo (s.extract pos s.size) = Utf8.decode s pos := by
    rw [← dec_go _ (by rw [ext_size s pos hp]; omega), dec_ext s pos 0 hp, Nat.add_zero]
   have hdl : pos + (Utf8.decode s pos).2 ≤ s.size := by
    have h1 := decN_le (s.extract pos s.size)
    unfold decN at h1
    rw [hdg, ext_size s pos hp] at h1
    omega
   have hO1 := iter_own hO (by omega) (pos + (Utf8.decode s pos).2) hit
   have hx1 := Lib.iterAt_heap wr B0 s pos (pos + (Utf8.decode s pos).2) hit
   have hb1 := Lib.below_iterAt hbel (Nat.le_refl B0) s (pos + (Utf8.decode s pos).2)
   have hT1 := hT.below hB0.symm hb1
   have HDE : Hid (∀ W, T8 W → Calls Tryz.prog 61 #[.string (s.extract pos s.size)] W fun e w' => e = .returned (.tuple #[.int .i32 (Utf8.decode s pos).1, .int .i64 (Utf8.decode s pos).2]) ∧ Below W.heap.size W w') := Lib.hid fun W h => hdg ▸ Any.utf8_DecodeRuneInString Tryz.lays197 (s.extract pos s.size) W h
   generalize (Utf8.decode s pos).1 = r at hnx hstep HDE
   generalize (Utf8.decode s pos).2 = n at hnx hstep hdp hdl hO1 hx1 hb1 hT1 HDE
   generalize wr.iterAt B0 s (pos + n) = w1 at hnx hO1 hx1 hb1 hT1
   have HST := Lib.hid hstep
   have HO1 := Lib.hid hO1
   have HX1 := Lib.hid hx1
   have HB1 := Lib.hid hb1
   have HT1 := Lib.hid hT1
   have HBAD := Lib.hid hbad
   have HDL := Lib.hid hdl
   have HIP := Lib.hid hip
   have HOL := Lib.hid hol
   have gp : (pos : Int) ≤ (s.size : Int) := by omega
   clear hit hO hbel hbad hstep hO1 hx1 hb1 hT1 hdg hdl hip hol
   go_upto_region 6 with (go_at_call 61; refine (HDE.out _ HT1.out).mono ?_; rintro e w2 ⟨rfl, hb2⟩)
   have hlt1 : B0 < w1.heap.size := (Array.getElem?_eq_some_iff.1 HX1.out).1
   have hx2 : w2.heap[B0]? = some (.stringIter s (pos + n)) := (hb2.block B0 hlt1).trans HX1.out
   have HX2 := Lib.hid hx2
   have HO2 := Lib.hid (HO1.out.keep hb2)
   have HB2 := Lib.hid (HB1.out.trans (hb2.mono (Nat.le_of_lt hlt1)))
   have hsz2 : B0 < w2.heap.size := (Array.getElem?_eq_some_iff.1 hx2).1
   clear hx2 hb2 HO1 HB1 HX1 HDE hnx
   have hsame : ¬ (r = 65533 ∧ n = 1) → ((out = [] ∧ badF s (s.size - (pos + n)) (pos + n) = badI s) ∨ (out ≠ [] ∧ badI s = true)) := fun hno => by
    rcases HBAD.out with ⟨h1, h2⟩ | h
    ·refine .inl ⟨h1, ?_⟩
     rw [HST.out] at h2
     rw [← h2]
     by_cases h3 : r = 65533
     ·have h4 : ¬ n = 1 := fun h => hno ⟨h3, h⟩
      rw [decide_eq_false h4, Bool.and_false, Bool.false_or]
     ·have h5 : ¬ ((r : Int) = 65533) := by omega
      rw [decide_eq_false h5, Bool.false_and, Bool.false_or]
    ·exact .inr h
   have HSAME := Lib.hid hsame
   clear hsame
   by_cases hr : r = 65533
   ·by_cases hn : n = 1
    ·subst hr hn
     have HBI : Hid (badI s = true) := Lib.hid (by
      rcases HBAD.out with ⟨h1, h2⟩ | h
      ·rw [← h2, HST.out]
       rfl
      ·exact h.2)
     clear HSAME HST HBAD
     have hoc := own_slice HO2.out
     go_wp2_with (at_builtin; refine wpList_append_own _ rfl _ _ 56 rfl (B0 + 1) 3 i0 (.int .i64 0) 1 8 Tryz.underlying56 hi0 hz0 hz1 hz2 rfl (by decide) _ _ _ rfl (HO2.out.alloc _) ⟨w2.heap.size, 0, none⟩ 1 1 [.int .i64 pos] rfl rfl (cell_one_new _ _ _) (by simp [Value.oneCell']) (by unfold maxLen; have := HOL.out; omega) (by have := HOL.out; omega) (by simp; omega) ?_; intro v' w4 ho hg _)
     have hb4 := (HB2.out.alloc (Nat.le_of_lt hsz2) (.cells #[.int .i64 pos] 3)).grown hg (by simp; omega) (fun k hk => by have := (World.ownsRow.lt HO2.out k hk).1; omega)
     have hx4 : w4.heap[B0]? = some (.stringIter s (pos + 1)) := (hg.block B0 (by simp; omega) (fun e => by have := (World.ownsRow.lt HO2.out B0 e.symm).1; omega)).trans ((Below.heap_alloc w2 _ B0 hsz2).trans HX2.out)
     have hm : out.map (Value.int .i64) ++ [.int .i64 (pos : Int)] = (out ++ [(pos : Int)]).map (Value.int .i64) := by rw [List.map_append]; rfl
     rw [hm] at ho
     obtain ⟨va, vc, hva, _, _⟩ := own_slice ho
     subst hva
     have ho' : OutAt .i64 3 w4 (B0 + 1) va vc (out ++ [(pos : Int)]) := by
      unfold OutAt
      rw [List.length_append]
      exact ho
     have HO4 := Lib.hid ho'
     have HX4 := Lib.hid hx4
     have HB4 := Lib.hid hb4
     clear ho ho' hx4 hb4 hg hm hoc HO2 HX2 HB2
     go_wp2_with (fail)
     go_roundw
     case rel => exact ⟨pos + 1, out ++ [(pos : Int)], va, vc, HDL.out, by have := HOL.out; rw [List.length_append]; simp; omega, by rw [List.length_append]; rfl, HX4.out, HO4.out, HB4.out, .inr ⟨by simp, HBI.out⟩⟩
     case measure => rw [HIP.out]; simp [World.iterPos, HX4.out]; have := HDL.out; omega
    ·have hne : ((n : Int) != 1) = true := by simp; omega
     have HN := Lib.hid (HSAME.out (fun h => hn h.2))
     subst hr
     clear hn HSAME HST HBAD
     go_wp2_with (fail)
     go_roundw
     case rel => exact ⟨pos + n, out, a, c, HDL.out, by have := HOL.out; omega, rfl, HX2.out, HO2.out, HB2.out, HN.out⟩
     case measure => rw [HIP.out]; simp [World.iterPos, HX2.out]; have := HDL.out; omega
   ·have hne : ((r : Int) != 65533) = true := by simp; omega
    have HN := Lib.hid (HSAME.out (fun h => hr h.1))
    clear hr HSAME HST HBAD
    go_wp2_with (fail)
    go_roundw
    case rel => exact ⟨pos + n, out, a, c, HDL.out, by have := HOL.out; omega, rfl, HX2.out, HO2.out, HB2.out, HN.out⟩
    case measure => rw [HIP.out]; simp [World.iterPos, HX2.out]; have := HDL.out; omega
  ·obtain rfl : pos = s.size := by omega
   have hnx := fun ty => Lib.run_next_end_at (P := Tryz.prog) wr B0 s s.size ty hit (Nat.lt_irrefl _)
   have hE : out.length = 0 ↔ badI s = false := by
    rcases hbad with ⟨h1, h2⟩ | ⟨h1, h2⟩
    ·rw [h1, ← h2, Nat.sub_self, badF]
     simp
    ·rw [h2]
     simp [h1]
   have HE := Lib.hid hE
   have HBE := Lib.hid hbel
   clear hE hbel hbad hO hit hip hol
   go_wp2_with (fail)
   unfold Exit.noGoto
   go_ret
   exact ⟨_, _, _, rfl, HE.out, by first | exact HBE.out | exact hB0 ▸ HBE.out⟩
end
section
open Go.RowKit Go.Great
def joinsT : List (Int × Int) := [(0, 0), (768, 4), (880, 0), (1155, 4), (1162, 0), (1425, 4), (1470, 0), (1471, 4), (1472, 0), (1473, 4), (1475, 0), (1476, 4), (1478, 0), (1479, 4), (1480, 0), (1552, 4), (1563, 0), (1570, 1), (1574, 2), (1575, 1), (1576, 2), (1577, 1), (1578, 2), (1583, 1), (1587, 2), (1595, 0), (1600, 3), (1601, 2), (1608, 1), (1610, 2), (1611, 4), (1632, 0), (1648, 4), (1649, 0), (1750, 4), (1757, 0), (1759, 4), (1765, 0), (1767, 4), (1769, 0), (1770, 4), (1774, 0), (3633, 4), (3634, 0), (3636, 4), (3643, 0), (3655, 4), (3663, 0), (6832, 4), (6912, 0), (7616, 4), (7680, 0), (8205, 3), (8206, 0), (8400, 4), (8448, 0), (12330, 4), (12334, 0), (12441, 4), (12443, 0), (65024, 4), (65040, 0), (65056, 4), (65072, 0)]
theorem joinsT_len : joinsT.length = 64 := by as_aux_lemma => kernel_rfl
set_option maxRecDepth 1000000 in
set_option maxHeartbeats 1000000 in
theorem joins_any (r : Int) (w : World) :
 Calls Tryz.prog 162 #[.int .i32 r] w (TabPost joinsT (known r) w) := by
 refine calls_of_wp Tryz.func162 rfl ?_
 refine wp_frame0 75 (.int .i32 r) (by as_aux_lemma => kernel_rfl) rfl (by as_aux_lemma => kernel_rfl) fun a0 hs0 hd0 h0 => ?_
 apply wp_seq_k; intro K0 hK0
 apply wp_region_lit
 refine wpList_mv rfl (some 2) rfl _ (.inr rfl) ?_
 refine wpList_mv rfl (some 3) rfl _ (.inr rfl) ?_
 apply wpList_nil
 refine hK0 _ _ ?_
 refine wp_frame0 75 (.int .i32 r) (by simp only [Act.size_put, hs0]) (by simp only [Act.defers_put', hd0]) (by rw [Act.eval_put_ne _ _ _ _ (by decide), Act.eval_put_ne _ _ _ _ (by decide), h0]) fun a1 hs1 hd1 h1 => ?_
 clear hK0 K0 h0 hd0 hs0 a0
 apply wp_seq_k; intro K1 hK1
 apply wp_region_lit
 refine wpList_splitAt 64 (stOps 161 (posOf Tryz.f162) 5 joinsT) (by as_aux_lemma => kernel_rfl) ?_
 refine wpList_sts 161 (posOf Tryz.f162) (fun _ _ => by as_aux_lemma => kernel_rfl) joinsT 5 _ (by rw [joinsT_len, hs1]; decide) fun a2 hs2 hd2 hev hlow => ?_
 refine wpList_buildArr2 rfl 248 161 64 _ joinsT rfl 5 (some 69) rfl (by as_aux_lemma => kernel_rfl) (by as_aux_lemma => kernel_rfl) (by as_aux_lemma => kernel_rfl) (by as_aux_lemma => kernel_rfl) hev ?_
 refine wpList_allocZ rfl (some 4) rfl 248 rfl w.heap.size rfl (((Tryz.prog.info? 248).bind (·.zero)).getD undef) (by as_aux_lemma => kernel_rfl) ?_
 have hc2 : (tcells joinsT).toArray.size = 128 := by rw [List.size_toArray, tcells_length, joinsT_len]
 have hb : w.heap.size < (w.alloc (.cells (((Tryz.prog.info? 248).bind (·.zero)).getD undef).cells 248)).heap.size := by simp
 refine wpList_store_row rfl 248 (.tmp 4) (.tmp 69) rfl w.heap.size (tcells joinsT).toArray
  (Act.eval_put_same _ _ _ (by simp only [Act.size_put, hs2, hs1]; decide)) (by rw [Act.eval_put_ne _ _ _ _ (by decide), Act.eval_put_same _ _ _ (by simp only [hs2, hs1]; decide)])
  248 _ (heap_alloc_new w _) (by rw [hc2]; as_aux_lemma => kernel_rfl) (by rw [hc2]; as_aux_lemma => kernel_rfl) (tcells_one _) ?_
 apply wpList_nil
 refine hK1 _ _ ?_
 clear hK1 K1
 have hp : ((((a2.put (some 69) (.agg (tcells joinsT).toArray)).put (some 4) (.pointer (some ⟨w.heap.size, 0, none⟩)))).put none undef).eval (.tmp 4) = .pointer (some ⟨w.heap.size, 0, none⟩) :=
  Act.eval_put_same _ _ _ (by simp only [Act.size_put, hs2, hs1]; decide)
 have hr : ((((a2.put (some 69) (.agg (tcells joinsT).toArray)).put (some 4) (.pointer (some ⟨w.heap.size, 0, none⟩)))).put none undef).eval (.tmp 0) = .int .i32 r := by
  show ((a2.put (some 69) (.agg (tcells joinsT).toArray)).put (some 4) (.pointer (some ⟨w.heap.size, 0, none⟩))).eval (.tmp 0) = _
  rw [Act.eval_put_ne _ _ _ _ (by decide), Act.eval_put_ne _ _ _ _ (by decide), hlow 0 (by decide), h1]
 exact tab_tail joinsT 64 75 70 4 248 161 r w _ _ _ _ _ _ _ _ _ _ joinsT_len (by decide) (by decide) (by simp only [Act.size_put, hs2, hs1]) (by simp only [Act.defers_put', hd2, hd1]) hp hr (by decide) (by decide)
  (by as_aux_lemma => kernel_rfl) (by as_aux_lemma => kernel_rfl) (setRow_heap _ _ _ _ _ _ (heap_alloc_new w _)) (tab_below w _ _) rfl
  rfl rfl rfl rfl rfl rfl rfl rfl (fun x => by rw [execOp_call_go]; simp) rfl rfl rfl rfl rfl rfl rfl rfl rfl rfl rfl rfl
theorem joins_val (r : Int) (w : World) : Calls Tryz.prog 162 #[.int .i32 r] w fun e w' => ∃ x y : Int, x = tabLook joinsT (known r) ∧ 0 ≤ x ∧ x ≤ 127 ∧ e = .returned (.tuple #[.int .u8 x, .int .i32 y]) ∧ Below w.heap.size w w' := by
 refine (joins_any r w).mono fun e w1 h => ?_
 obtain ⟨low, h1, h2, h3, he, hb⟩ := h
 have hs : tabSmall joinsT = true := by as_aux_lemma => kernel_rfl
 have hr : risesB joinsT = true := by as_aux_lemma => kernel_rfl
 have hbd := tabSmall_bd hs low
 exact ⟨_, _, (tabLook_of joinsT low (known r) hr h1 h2 h3).symm, hbd.1, hbd.2, he, hb⟩
def joinI (r : Int) : Int := tabLook joinsT (known r)
set_option maxHeartbeats 400000 in
theorem Join_any (r : Int) (w : World) :
 Calls Tryz.prog 133 #[.int .i32 r] w fun e w' => e = .returned (.int .i8 (joinI r)) ∧ Below w.heap.size w w' := by
 go_enter Tryz.func133, Tryz.ntmps133
 go_wp2_with (go_at_call 162; refine (joins_val r w).mono ?_; rintro e w1 ⟨x, y, rfl, h0, h1, rfl, hb⟩)
 go_ret
 exact ⟨ret_i rfl, hb⟩
end
section
open Go.RowKit Go.Great
def firstsT : List Int := [0xfe80, 0xfe81, 0xfe83, 0xfe85, 0xfe87, 0xfe89, 0xfe8d, 0xfe8f, 0xfe93, 0xfe95, 0xfe99, 0xfe9d, 0xfea1, 0xfea5, 0xfea9, 0xfeab, 0xfead, 0xfeaf, 0xfeb1, 0xfeb5, 0xfeb9, 0xfebd, 0xfec1, 0xfec5, 0xfec9, 0xfecd, 0, 0, 0, 0, 0, 0, 0xfed1, 0xfed5, 0xfed9, 0xfedd, 0xfee1, 0xfee5, 0xfee9, 0xfeed, 0xfeef, 0xfef1]
def fstI (r : Int) : Int := if r < 1569 ∨ 1610 < r then 0 else firstsT.getD (r - 1569).toNat 0
def shapeI (r form : Int) : Int :=
 if fstI r = 0 then r
 else if joinI r = 2 then (if form = 3 then fstI r + 1 else if form = 1 then fstI r + 2 else if form = 2 then fstI r + 3 else fstI r)
 else if joinI r = 1 then (if form = 3 ∨ form = 2 then fstI r + 1 else fstI r)
 else fstI r
def fstC : Array Value := (firstsT.map (Value.int .u16)).toArray
theorem fsts_bd (k : Nat) : 0 ≤ firstsT.getD k 0 ∧ firstsT.getD k 0 ≤ 65265 := by
 by_cases h : k < 42
 ·have : ∀ j : Fin 42, 0 ≤ firstsT.getD j.1 0 ∧ firstsT.getD j.1 0 ≤ 65265 := by decide
  exact this ⟨k, h⟩
 ·rw [List.getD_eq_getElem?_getD, List.getElem?_eq_none (by show 42 ≤ k; omega)]
  decide
theorem fst_bd (r : Int) : 0 ≤ fstI r ∧ fstI r ≤ 65265 := by
 unfold fstI
 split
 ·decide
 ·exact fsts_bd _
set_option maxRecDepth 100000 in
set_option maxHeartbeats 1000000 in
theorem jFirst_any (r : Int) (w : World) :
 Calls Tryz.prog 134 #[.int .i32 r] w fun e w' => e = .returned (.int .i32 (fstI r)) ∧ Below w.heap.size w w' := by
 go_enter Tryz.func134, Tryz.ntmps134
 go_upto_region 1 with (fail)
 apply wp_region_lit
 refine wpList_buildTo rfl 235 _ rfl (some 4) rfl fstC (by as_aux_lemma => kernel_rfl) ?_
 refine wpList_allocZ rfl (some 3) rfl 235 rfl w.heap.size rfl (((Tryz.prog.info? 235).bind (·.zero)).getD undef) (by as_aux_lemma => kernel_rfl) ?_
 refine wpList_store_rowTo rfl 235 (.tmp 3) (.tmp 4) rfl rfl w.heap.size fstC rfl rfl 235 _ (heap_alloc_new w _) (by as_aux_lemma => kernel_rfl) (by as_aux_lemma => kernel_rfl) (by as_aux_lemma => kernel_rfl) ?_
 apply wpList_nil
 rename_i hK
 have hx := setRow_heap _ _ _ fstC _ _ (heap_alloc_new w (.cells (((Tryz.prog.info? 235).bind (·.zero)).getD undef).cells 235))
 have hb := tab_below w (.cells (((Tryz.prog.info? 235).bind (·.zero)).getD undef).cells 235) fstC
 simp only [Act.put]
 generalize World.setRow _ _ _ = w1 at hx hb ⊢
 refine hK _ _ ?_
 clear hK
 simp only [List.setIfInBounds_toArray, List.set_cons_zero, List.set_cons_succ]
 have hs1 : w.heap.size < w1.heap.size := (Array.getElem?_eq_some_iff.1 hx).1
 obtain ⟨B, hB⟩ : ∃ B, w.heap.size = B := ⟨_, rfl⟩
 rw [hB] at hx hs1
 have hb' : Below w.heap.size w w1 := hb
 rw [hB] at hb'
 have HB := Lib.hid hb
 have HB2 := Lib.hid hb'
 have HX := Lib.hid hx
 rw [hB]
 clear hb hb' hx
 generalize Value.agg fstC = v4
 by_cases h1 : r < 1569
 ·go_wp2_with (fail)
  go_ret
  exact ⟨ret_i (by unfold fstI; rw [if_pos (.inl h1)]), by first | exact HB.out | exact HB2.out⟩
 by_cases h2 : 1610 < r
 ·go_wp2_with (fail)
  go_ret
  exact ⟨ret_i (by unfold fstI; rw [if_pos (.inr h2)]), by first | exact HB.out | exact HB2.out⟩
 obtain ⟨k, hk⟩ : ∃ k : Nat, r = 1569 + k := ⟨(r - 1569).toNat, by omega⟩
 subst hk
 have hk : k < 42 := by omega
 have hc : w1.cell? ⟨B, k, none⟩ = some (.int .u16 (fstI (1569 + k))) := by
  have e : fstC[k]? = some (.int .u16 (firstsT.getD k 0)) := by
   unfold fstC
   rw [List.getElem?_toArray, List.getElem?_map, List.getD_eq_getElem?_getD, List.getElem?_eq_getElem (show k < firstsT.length from hk)]
   rfl
  unfold fstI
  rw [if_neg (by omega), show ((1569 : Int) + k - 1569).toNat = k by omega]
  simp [World.cell?, HX.out, e]
 have hfb := fst_bd (1569 + k)
 obtain ⟨f, hf⟩ : ∃ f, fstI (1569 + k) = f := ⟨_, rfl⟩
 rw [hf] at hc hfb
 have HFE := Lib.hid hf
 clear hf
 have i1 : IntKind.i32.wrap ((1569 : Int) + k - 1569) = k := by rw [IntKind.wrap_i32]; omega
 have i2 : (k : Int) < 42 := by omega
 go_wp2_with (fail)
 go_ret
 exact ⟨ret_i (by rw [HFE.out]), by first | exact HB.out | exact HB2.out⟩
set_option maxHeartbeats 1000000 in
theorem Shape_any (r form : Int) (w : World) :
 Calls Tryz.prog 107 #[.int .i32 r, .int .i8 form] w fun e w' => e = .returned (.int .i32 (shapeI r form)) ∧ Below w.heap.size w w' := by
 obtain ⟨V, hV⟩ : ∃ V, shapeI r form = V := ⟨_, rfl⟩
 rw [hV]
 unfold shapeI at hV
 have hfb := fst_bd r
 have HF : Hid (∀ W : World, Calls Tryz.prog 134 #[.int .i32 r] W fun e w' => e = .returned (.int .i32 (fstI r)) ∧ Below W.heap.size W w') := Lib.hid fun W => jFirst_any r W
 have HJ : Hid (∀ W : World, Calls Tryz.prog 133 #[.int .i32 r] W fun e w' => e = .returned (.int .i8 (joinI r)) ∧ Below W.heap.size W w') := Lib.hid fun W => Join_any r W
 generalize fstI r = f at hV hfb HF
 generalize joinI r = j at hV HJ
 have HV := Lib.hid hV
 clear hV
 go_enter Tryz.func107, Tryz.ntmps107
 go_upto_region 2 with (go_at_call 134; refine (HF.out _).mono ?_; rintro e w1 ⟨rfl, hb1⟩)
 by_cases hf0 : f = 0
 ·subst hf0
  go_wp2_with (fail)
  go_ret
  exact ⟨ret_i (by rw [← HV.out]; simp), hb1⟩
 ·have hf1 : (f == 0) = false := by rw [beq_eq_false_iff_ne]; exact hf0
  go_upto_region 5 with (go_at_call 133; refine (HJ.out _).mono ?_; rintro e w2 ⟨rfl, hb2⟩)
  have hb3 := hb1.trans (hb2.mono hb1.size)
  have HB := Lib.hid hb3
  have HF0 := Lib.hid hf0
  clear hb1 hb2 hb3 hf0
  have HD : V = V := rfl
  by_cases hj2 : j = 2
  ·subst hj2
   by_cases h3 : form = 3
   ·subst h3
    go_wp2_with (fail)
    go_ret
    exact ⟨ret_i (by rw [← HV.out]; simp [HF0.out]), HB.out⟩
   by_cases h1 : form = 1
   ·subst h1
    go_wp2_with (fail)
    go_ret
    exact ⟨ret_i (by rw [← HV.out]; simp [HF0.out]), HB.out⟩
   by_cases h2 : form = 2
   ·subst h2
    go_wp2_with (fail)
    go_ret
    exact ⟨ret_i (by rw [← HV.out]; simp [HF0.out]), HB.out⟩
   ·have e3 : (form == 3) = false := by rw [beq_eq_false_iff_ne]; exact h3
    have e1 : (form == 1) = false := by rw [beq_eq_false_iff_ne]; exact h1
    have e2 : (form == 2) = false := by rw [beq_eq_false_iff_ne]; exact h2
    have hE : V = f := by rw [← HV.out]; simp [HF0.out, h1, h2, h3]
    have HE := Lib.hid hE
    clear h1 h2 h3 hE
    go_wp2_with (fail)
    go_ret
    exact ⟨ret_i HE.out.symm, HB.out⟩
  ·have ej2 : (j == 2) = false := by rw [beq_eq_false_iff_ne]; exact hj2
   by_cases hj1 : j = 1
   ·subst hj1
    by_cases h3 : form = 3
    ·subst h3
     go_wp2_with (fail)
     go_ret
     exact ⟨ret_i (by rw [← HV.out]; simp [HF0.out]), HB.out⟩
    by_cases h2 : form = 2
    ·subst h2
     go_wp2_with (fail)
     go_ret
     exact ⟨ret_i (by rw [← HV.out]; simp [HF0.out]), HB.out⟩
    ·have e3 : (form == 3) = false := by rw [beq_eq_false_iff_ne]; exact h3
     have e2 : (form == 2) = false := by rw [beq_eq_false_iff_ne]; exact h2
     have hE : V = f := by rw [← HV.out]; simp [HF0.out, h2, h3]
     have HE := Lib.hid hE
     clear h2 h3 hE
     go_wp2_with (fail)
     go_ret
     exact ⟨ret_i HE.out.symm, HB.out⟩
   ·have ej1 : (j == 1) = false := by rw [beq_eq_false_iff_ne]; exact hj1
    have hE : V = f := by rw [← HV.out]; simp [HF0.out, hj1, hj2]
    have HE := Lib.hid hE
    clear hj1 hj2 hE
    go_wp2_with (fail)
    go_ret
    exact ⟨ret_i HE.out.symm, HB.out⟩
end
end Go.Proofs.YtlbclfmbejjneaaGreatDoor
