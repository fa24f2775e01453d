/- Part 36 of the proof (merged by a program out of the texts BlankW, StraP, LayP): lemmas of no further condition than each states. -/
import Derived.Test.YtlbclfmbejjneaaGreatDoorJ31
import Derived.Test.YtlbclfmbejjneaaGreatDoorJ34
namespace Go.Proofs.YtlbclfmbejjneaaGreatDoor
set_option linter.unusedVariables false
set_option linter.unusedSimpArgs false
section
open Go.RowKit Go.Proofs Go.Shelf
attribute [local go_sem] Oper.semAt_some
set_option maxHeartbeats 1000000 in
theorem rBlank_any (s : ByteArray) (hs : s.size ≤ 2097152) (b : Nat) (lv sv : Value) (fr tt bs : Nat) (wide : Int) (L : List Pc) (w : World) (hL : LdB w b lv sv fr tt bs wide) (hO : OwnS pcE 75 w (b + 1) lv L) (hT : T8 w)
 (i : Nat) (p : Pc) (hp : L[i]? = some p) (hpa : p.a ≤ s.size) :
 Calls Tryz.prog 51 #[.pointer (some ⟨b, 0, none⟩), .string s, .int .i64 i] w fun e w' => e = .returned (.bool (blankP s p)) ∧ Below w.heap.size w w' := by
 have hil := (List.getElem?_eq_some_iff.1 hp).1
 obtain ⟨la, lcap, hlv, _, _⟩ := hO.slice
 subst hlv
 obtain ⟨G, eG, hGb, hGl, hcell, hfz⟩ := hO.at i p hp
 subst eG
 have y0 : w.cell? ⟨G, i * 10, none⟩ = some (.int .i64 p.a) := hcell 0 _ rfl
 have d0 := hL.cells.1
 have g0 : (p.a : Int) ≤ (s.size : Int) := by omega
 have g1 : (i : Int) < (L.length : Int) := by omega
 obtain ⟨c, hc⟩ : ∃ c, s.extract p.a s.size = c := ⟨_, rfl⟩
 obtain ⟨r, hr⟩ : ∃ r, decR c = r := ⟨_, rfl⟩
 obtain ⟨m, hm⟩ : ∃ m, decN c = m := ⟨_, rfl⟩
 obtain ⟨V, hV⟩ : ∃ V, blankP s p = V := ⟨_, rfl⟩
 have hv : V = ((!decide (r = 65533) || decide (1 < m)) && decide (breakI r = 1)) := by rw [← hV, ← hr, ← hm, ← hc]; rfl
 have hS := sNext_any c w hT
 rw [hr, hm] at hS
 have HS := Lib.hid hS
 have HV := Lib.hid hv
 rw [hV]
 clear hL hO hT hcell hfz hS hv hV hr hm hp
 go_enter Tryz.func51, Tryz.ntmps51
 go_upto_region 3 with (go_at_call 37; refine HS.out.mono ?_; rintro e w1 ⟨rfl, hb1⟩)
 have HB1 := Lib.hid hb1
 clear hb1 d0 y0
 obtain ⟨k, hk⟩ : ∃ k, breakI r = k := ⟨_, rfl⟩
 have HB := Lib.hid (Break_any r w1)
 have hv := HV.out
 rw [hk] at HB hv
 by_cases h1 : r = 65533
 ·subst h1
  by_cases h2 : 1 < m
  ·have h2' : (1 : Int) < (m : Int) := by omega
   have HV2 := Lib.hid hv
   clear hk hv HV
   go_wp2_with (go_at_call 73; refine HB.out.mono ?_; rintro e w2 ⟨rfl, hb2⟩)
   go_ret
   exact ⟨ret_b (by rw [HV2.out]; simp only [decide_eq_true h2, Bool.or_true, Bool.true_and]; rw [Bool.eq_iff_iff]; simp), HB1.out.trans (hb2.mono HB1.out.size)⟩
  ·have h2' : ¬ (1 : Int) < (m : Int) := by omega
   have HV2 := Lib.hid hv
   clear hk hv HV HB
   go_wp2_with (fail)
   go_ret
   exact ⟨ret_b (by rw [HV2.out]; simp [h2]), HB1.out⟩
 ·have h1' : (r == 65533) = false := by rw [beq_eq_false_iff_ne]; exact h1
  have HV2 := Lib.hid hv
  have H1 := Lib.hid h1
  clear hk hv HV
  go_wp2_with (go_at_call 73; refine HB.out.mono ?_; rintro e w2 ⟨rfl, hb2⟩)
  go_ret
  exact ⟨ret_b (by rw [HV2.out]; simp only [decide_eq_false H1.out, Bool.not_false, Bool.true_or, Bool.true_and]; rw [Bool.eq_iff_iff]; simp), HB1.out.trans (hb2.mono HB1.out.size)⟩
end
section
theorem findF_map : ∀ (ps : List (Nat × ByteArray)) (n : Nat), (findF ps n).map (fun p => (p.a, p.size, p.level)) = ps.map (fun q => (q.1, q.2.size, 0))
 | [], _ => rfl
 | p :: t, n => by rw [findF, List.map_cons, findF_map t, List.map_cons]; rfl
theorem layF_map {α : Type} (f : Pc → α) (hf : ∀ (p : Pc) (a : ByteArray) (b : Int), f { p with shown := a, wide := b } = f p) (rw tab : Int) (wideA raw : Bool) : ∀ (L : List Pc) (i : Nat) (x t : Int), (layF rw tab wideA raw L i x t).1.map f = L.map f
 | [], _, _, _ => rfl
 | p :: L, i, x, t => by
   rw [layF_cons]
   by_cases h : 0 ≤ tlF rw i x (textI p.became x tab wideA raw).2 t
   ·rw [if_pos h]
    dsimp only
    rw [List.map_cons, hf, layF_map f hf rw tab wideA raw L, List.map_cons]
   ·rw [if_neg h]
    dsimp only
    rw [List.map_cons, layF_map f hf rw tab wideA raw L, List.map_cons]
theorem set_map {α : Type} (f : Pc → α) (L : List Pc) (i : Nat) (q : Pc) (h : f q = f (L.getD i default)) : (L.set i q).map f = L.map f := by
 apply List.ext_getElem?
 intro j
 rw [List.getElem?_map, List.getElem?_map, List.getElem?_set]
 by_cases e : i = j
 ·subst e
  rw [if_pos rfl]
  by_cases hl : i < L.length
  ·rw [if_pos hl, List.getElem?_eq_getElem hl]
   simp only [Option.map_some]
   rw [h, List.getD_eq_getElem?_getD, List.getElem?_eq_getElem hl]
   rfl
  ·rw [if_neg hl, List.getElem?_eq_none (by omega)]
 ·rw [if_neg e]
theorem edgeF_map {α : Type} (f : Pc → α) (hf : ∀ (p : Pc) (a b : Int), f { p with e0 := a, e1 := b } = f p) : ∀ (o : List Int) (x : Int) (L : List Pc), (edgeF o x L).map f = L.map f
 | [], _, _ => rfl
 | i :: t, x, L => by rw [edgeF, edgeF_map f hf t, set_map f L _ _ (hf _ _ _)]
theorem change_map {α : Type} (f : Pc → α) (hf : ∀ (p : Pc) (a : ByteArray), f { p with became := a } = f p) (s : ByteArray) (rs : List Int) (L : List Pc) : (L.map (changeP s rs)).map f = L.map f := by
 rw [List.map_map]
 exact List.map_congr_left fun p _ => hf p _
theorem cellsP_len (p : Pc) : (cellsP p).length = p.wide.toNat := by unfold cellsP; simp
theorem leftF_le (c : Int) : ∀ L : List Pc, leftF c L ≤ L.length
 | [] => Nat.le_refl _
 | p :: t => by
   rw [leftF]
   split
   ·have := leftF_le c t; simp; omega
   ·exact Nat.zero_le _
theorem wsum_map : ∀ (A B : List Pc), A.map (·.wide) = B.map (·.wide) → wsum A = wsum B
 | [], [], _ => rfl
 | [], _ :: _, h => by cases h
 | _ :: _, [], h => by cases h
 | a :: A, b :: B, h => by
   rw [List.map_cons, List.map_cons] at h
   obtain ⟨h1, h2⟩ := List.cons.inj h
   rw [wsum, wsum, wsum_map A B h2, h1]
theorem found_zero : ∀ (ps : List (Nat × ByteArray)) (n : Nat), ∀ p ∈ findF ps n, p.wide = 0 ∧ p.level = 0
 | [], _, p, h => by cases h
 | q :: t, n, p, h => by
   rw [findF] at h
   rcases List.mem_cons.1 h with rfl | h
   ·exact ⟨rfl, rfl⟩
   ·exact found_zero t _ p h
theorem levels_map {α : Type} (f : Pc → α) (hf : ∀ (p : Pc) (l : Nat), f { p with level := l } = f p) (s : ByteArray) (want : Int) (raw : Bool) (fr : Nat) (L : List Pc) : (levelsI s want raw fr L).map f = L.map f := by
 unfold levelsI
 split
 ·rfl
 ·rw [List.map_map]
  exact List.map_congr_left fun p _ => hf p _
theorem lay2_map {α : Type} (f : Pc → α) (h1 : ∀ (p : Pc) (l : Nat), f { p with level := l } = f p) (h2 : ∀ (p : Pc) (a : ByteArray), f { p with became := a } = f p) (s : ByteArray) (want : Int) (join raw : Bool) (ra rl : Int) :
 (lay2 s want join raw ra rl).map f = (foundI s (rowFr s ra) (rowTo s ra rl)).map f := by
 unfold lay2
 rw [change_map f h2, levels_map f h1]
theorem layL_map {α : Type} (f : Pc → α) (h1 : ∀ (p : Pc) (a : ByteArray) (b : Int), f { p with shown := a, wide := b } = f p) (h2 : ∀ (p : Pc) (a b : Int), f { p with e0 := a, e1 := b } = f p)
 (s : ByteArray) (tab want : Int) (wideA join raw : Bool) (ra rl rw : Int) : (layL s tab want wideA join raw ra rl rw).map f = (lay2 s want join raw ra rl).map f := by
 unfold layL lay3
 rw [edgeF_map f h2, layF_map f h1]
theorem mem_map_eq {α β : Type} {f : α → β} {A B : List α} (h : A.map f = B.map f) {a : α} (ha : a ∈ A) : ∃ b ∈ B, f b = f a := by
 have : f a ∈ B.map f := by rw [← h]; exact List.mem_map_of_mem ha
 obtain ⟨b, hb, e⟩ := List.mem_map.1 this
 exact ⟨b, hb, e⟩
theorem lay2_wide (s : ByteArray) (want : Int) (join raw : Bool) (ra rl : Int) : ∀ p ∈ lay2 s want join raw ra rl, p.wide = 0 := fun p hp => by
 obtain ⟨q, hq, e⟩ := mem_map_eq (lay2_map (fun p => p.wide) (fun _ _ => rfl) (fun _ _ => rfl) s want join raw ra rl) hp
 rw [← e]
 exact (found_zero _ _ q hq).1
theorem lay3_bd (s : ByteArray) (tab want : Int) (wideA join raw : Bool) (ra rl rw : Int) : ∀ q ∈ (lay3 s tab want wideA join raw ra rl rw).1, 0 ≤ q.wide ∧ q.wide ≤ 19 := fun q hq => by
 obtain ⟨j, hj, e⟩ := List.mem_iff_getElem.1 hq
 unfold lay3 at hj e
 have hj2 := hj
 rw [layF_len] at hj2
 obtain ⟨p, hp⟩ : ∃ p, (lay2 s want join raw ra rl)[j]? = some p := ⟨_, List.getElem?_eq_getElem hj2⟩
 obtain ⟨q', hq', hl⟩ := layF_get rw tab wideA raw _ 0 0 (tailF s (lay2 s want join raw ra rl) (lay2 s want join raw ra rl).length) j p hp
 rw [List.getElem?_eq_getElem hj, e] at hq'
 have := Option.some.inj hq'
 subst this
 rcases hl with rfl | ⟨x, rfl⟩
 ·have := lay2_wide s want join raw ra rl q (List.mem_of_getElem? hp)
  omega
 ·exact textI_bd _ _ _ _ _
theorem layL_wide (s : ByteArray) (tab want : Int) (wideA join raw : Bool) (ra rl rw : Int) : (layL s tab want wideA join raw ra rl rw).map (·.wide) = (lay3 s tab want wideA join raw ra rl rw).1.map (·.wide) := by
 unfold layL
 exact edgeF_map (fun p => p.wide) (fun _ _ _ => rfl) _ _ _
theorem layL_bd (s : ByteArray) (tab want : Int) (wideA join raw : Bool) (ra rl rw : Int) : ∀ q ∈ layL s tab want wideA join raw ra rl rw, 0 ≤ q.wide ∧ q.wide ≤ 19 := fun q hq => by
 obtain ⟨p, hp, e⟩ := mem_map_eq (layL_wide s tab want wideA join raw ra rl rw) hq
 have := lay3_bd s tab want wideA join raw ra rl rw p hp
 omega
theorem lay3_sum (s : ByteArray) (tab want : Int) (wideA join raw : Bool) (ra rl rw : Int) : (lay3 s tab want wideA join raw ra rl rw).2 = wsum (layL s tab want wideA join raw ra rl rw) := by
 rw [wsum_map _ _ (layL_wide s tab want wideA join raw ra rl rw)]
 unfold lay3
 rw [layF_sum _ _ _ _ _ _ _ _ (lay2_wide s want join raw ra rl)]
 omega
theorem layL_len (s : ByteArray) (tab want : Int) (wideA join raw : Bool) (ra rl rw : Int) : (layL s tab want wideA join raw ra rl rw).length = (lay2 s want join raw ra rl).length := by
 unfold layL lay3
 rw [edgeF_len, layF_len]
theorem lay2_len (s : ByteArray) (want : Int) (join raw : Bool) (ra rl : Int) : (lay2 s want join raw ra rl).length = (foundI s (rowFr s ra) (rowTo s ra rl)).length := by
 have := congrArg List.length (lay2_map (fun p => p.a) (fun _ _ => rfl) (fun _ _ => rfl) s want join raw ra rl)
 simpa using this
end
section
theorem rowA_le (s : ByteArray) (ra : Int) : rowA s ra ≤ s.size := by unfold rowA; omega
theorem rowB_le (s : ByteArray) (ra rl : Int) : rowA s ra ≤ rowB s ra rl ∧ rowB s ra rl ≤ s.size := by
 have := rowA_le s ra
 unfold rowB
 omega
theorem runes_two {s : ByteArray} {a b c k m n : Nat} (ha : Bord s a k) (hb : Bord s b m) (hc : Bord s c n) (h1 : a ≤ b) (h2 : b ≤ c) :
 (runesI (s.extract a c)).length = (runesI (s.extract a b)).length + (runesI (s.extract b c)).length := by
 have e1 := inPs_spec ha hb h1
 have e2 := inPs_spec hb hc h2
 have e3 := inPs_spec ha hc (Nat.le_trans h1 h2)
 have hin : inPs s a c = inPs s a b ++ inPs s b c := by
  have := e3.1
  rw [e1.1, e2.1, ← List.append_assoc] at this
  exact (List.append_cancel_right this).symm
 rw [runes_all (s.extract a c), runes_all (s.extract a b), runes_all (s.extract b c), ← e3.2.1, ← e1.2.1, ← e2.2.1, hin, List.map_append, List.flatMap_append, List.length_append]
theorem found_facts (s : ByteArray) (ra rl : Int) : rowFr s ra ≤ rowTo s ra rl ∧ rowTo s ra rl ≤ s.size ∧ (foundI s (rowFr s ra) (rowTo s ra rl)).length ≤ s.size ∧
 (∀ (i : Nat) (p : Pc), (foundI s (rowFr s ra) (rowTo s ra rl))[i]? = some p → p.c0 < p.c1 ∧ p.c1 ≤ (runesI (s.extract (rowFr s ra) (rowTo s ra rl))).length ∧ p.a + p.size ≤ s.size ∧ 0 < p.size ∧ p.c0 < lastC (foundI s (rowFr s ra) (rowTo s ra rl))) ∧
 (runesI (s.extract 0 (rowFr s ra))).length + lastC (foundI s (rowFr s ra) (rowTo s ra rl)) ≤ (runesI s).length := by
 obtain ⟨kf, hf, _, _⟩ := upB_spec s (rowA s ra) (rowA_le s ra)
 obtain ⟨kt, ht, _, _⟩ := upB_spec s (rowB s ra rl) (rowB_le s ra rl).2
 have hft : rowFr s ra ≤ rowTo s ra rl := upB_mono s _ _ (rowB_le s ra rl).1 (rowB_le s ra rl).2
 have htz : rowTo s ra rl ≤ s.size := ht.1
 change Bord s (rowFr s ra) kf at hf
 change Bord s (rowTo s ra rl) kt at ht
 have hget := fun i p hp => found_get hf ht hft i p hp
 have hlen : (foundI s (rowFr s ra) (rowTo s ra rl)).length ≤ s.size := by
  unfold foundI
  rw [findF_len]
  unfold inPs
  have h1 := List.length_filter_le (fun p : Nat × ByteArray => decide (rowFr s ra ≤ p.1) && decide (p.1 < rowTo s ra rl)) (piecesI s)
  have h2 := pieces_len s
  omega
 have hlast : lastC (foundI s (rowFr s ra) (rowTo s ra rl)) ≤ (runesI (s.extract (rowFr s ra) (rowTo s ra rl))).length ∧ ∀ (i : Nat) (p : Pc), (foundI s (rowFr s ra) (rowTo s ra rl))[i]? = some p → lastC (foundI s (rowFr s ra) (rowTo s ra rl)) = (runesI (s.extract (rowFr s ra) (rowTo s ra rl))).length := by
  have key : ∀ n, (foundI s (rowFr s ra) (rowTo s ra rl)).length = n + 1 → lastC (foundI s (rowFr s ra) (rowTo s ra rl)) = (runesI (s.extract (rowFr s ra) (rowTo s ra rl))).length := fun n hn => by
   obtain ⟨p, hp⟩ : ∃ p, (foundI s (rowFr s ra) (rowTo s ra rl))[n]? = some p := ⟨_, List.getElem?_eq_getElem (by omega)⟩
   have := (hget n p hp).2.2.2.2.2.2.2 hn.symm
   unfold lastC
   rw [List.getLastD_eq_getLast?, List.getLast?_eq_getElem?, hn, Nat.add_sub_cancel, hp]
   exact this
  refine ⟨?_, fun i p hp => ?_⟩
  ·cases hn : (foundI s (rowFr s ra) (rowTo s ra rl)).length with
   | zero =>
     rw [List.length_eq_zero_iff.1 hn]
     exact Nat.zero_le _
   | succ n => exact Nat.le_of_eq (key n hn)
  ·have := (List.getElem?_eq_some_iff.1 hp).1
   exact key ((foundI s (rowFr s ra) (rowTo s ra rl)).length - 1) (by omega)
 refine ⟨hft, htz, hlen, fun i p hp => ?_, ?_⟩
 ·obtain ⟨g1, g2, g3, g4, g5, g6, g7, g8⟩ := hget i p hp
  exact ⟨g5, g6, by omega, g3, by rw [hlast.2 i p hp]; omega⟩
 ·have h1 := runes_two (Bord.zero s) hf ht (Nat.zero_le _) hft
  have h2 := runes_two (Bord.zero s) ht (bord_end s) (Nat.zero_le _) htz
  rw [ByteArray.extract_zero_size] at h2
  omega
theorem becomeI_size (T : ByteArray) (O : List Int) (odd : Bool) (hT : T.size ≤ 2097152) (hO : O.length ≤ 2097152) : (becomeI T O odd).size ≤ 8388612 := by
 unfold becomeI
 have h1 := runesBytes_size_le O
 have h2 := runesBytes_size_le (mirrorI (ith O 0) :: O.tail)
 rw [runesBytes_F] at h1 h2
 rw [List.length_cons, List.length_tail] at h2
 split
 ·omega
 split <;> omega
theorem lay2_get (s : ByteArray) (hs : s.size ≤ 2097152) (want : Int) (join raw : Bool) (ra rl : Int) (i : Nat) (p : Pc) (hp : (lay2 s want join raw ra rl)[i]? = some p) :
 p.a + p.size ≤ s.size ∧ 0 < p.size ∧ p.became.size ≤ 8388612 ∧ p.wide = 0 := by
 have hw := lay2_wide s want join raw ra rl p (List.mem_of_getElem? hp)
 obtain ⟨q, hq, e⟩ := mem_map_eq (lay2_map (fun p => (p.a, p.size)) (fun _ _ => rfl) (fun _ _ => rfl) s want join raw ra rl) (List.mem_of_getElem? hp)
 obtain ⟨j, hj⟩ := List.mem_iff_getElem?.1 hq
 have hf := (found_facts s ra rl).2.2.2.1 j q hj
 simp only [Prod.mk.injEq] at e
 refine ⟨by omega, by omega, ?_, hw⟩
 unfold lay2 at hp
 rw [List.getElem?_map] at hp
 obtain ⟨r, hr, e2⟩ := Option.map_eq_some_iff.1 hp
 rw [← e2]
 refine becomeI_size _ _ _ ?_ ?_
 ·simp [ByteArray.size_extract]; omega
 ·have h1 := madeI_len s join (rowFr s ra) (rowTo s ra rl)
  have h2 := runesI_len (s.extract (rowFr s ra) (rowTo s ra rl))
  have h3 : (s.extract (rowFr s ra) (rowTo s ra rl)).size ≤ s.size := by simp [ByteArray.size_extract]; omega
  rw [List.length_take, List.length_drop]
  omega
theorem seen_get (ls : List Nat) (n k : Nat) (hn : ls.length = n) (hk : k < n) : ∃ j : Nat, j < n ∧ (orderI ls)[k]? = some (j : Int) := by
 subst hn
 refine ⟨oF (lvF ls) ls.length (0 + 1) (topF ls ls.length) k, oF_lt _ _ _ hk, ?_⟩
 unfold orderI listOf
 rw [List.getElem?_map, List.getElem?_range hk]
 rfl
theorem order_len (ls : List Nat) : (orderI ls).length = ls.length := by unfold orderI; rw [listOf_len]
theorem edgeF_step (i : Nat) (t : List Int) (x : Int) (L : List Pc) (p : Pc) (h : L[i]? = some p) : edgeF ((i : Int) :: t) x L = edgeF t (x + p.wide) (L.set i { p with e0 := x, e1 := x + p.wide }) := by
 have hg : L.getD i default = p := by rw [List.getD_eq_getElem?_getD, h]; rfl
 rw [edgeF, Int.toNat_natCast, hg]
theorem tailF_out (s : ByteArray) (L : List Pc) (t : Nat) (h : blankP s (L.getD t default) = true) : tailF s L (t + 1) = tailF s L t := by rw [tailF, if_pos h]
theorem tailF_in (s : ByteArray) (L : List Pc) (t : Nat) (h : blankP s (L.getD t default) = false) : tailF s L (t + 1) = t + 1 := by rw [tailF, h, if_neg (by decide)]
end
end Go.Proofs.YtlbclfmbejjneaaGreatDoor
