/- Part 45 of the proof (merged by a program out of the texts MirP, GoodP, ShownP, LawRS, ItE): lemmas of no further condition than each states. -/
import Derived.Test.YtlbclfmbejjneaaGreatDoorH44
namespace Go.Proofs.YtlbclfmbejjneaaGreatDoor
set_option linter.unusedVariables false
set_option linter.unusedSimpArgs false
section
instance (x y : Int) : Decidable (sameP x y) := by unfold sameP; exact inferInstance
def mirL : List Int := brL ++ [60, 65308, 62, 65310, 171, 187, 8249, 8250, 8804, 8805]
theorem mirL_all : mirL.all (fun r => decide (sameP r (mirrorI r)) && validRune (mirrorI r)) = true := by decide +kernel
theorem brL_len : brL.length = 30 := by decide
theorem mirror_in (r : Int) : mirrorI r = r ∨ r ∈ mirL := by
 by_cases h : ∃ j, j < 30 ∧ ith brL j = r
 ·obtain ⟨j, hj, e⟩ := h
  right
  unfold mirL
  refine List.mem_append.2 (.inl ?_)
  rw [← e]
  exact List.mem_of_getElem? (ith_get (by rw [brL_len]; exact hj))
 ·have hm := pairI_miss r (fun j hj e => h ⟨j, hj, e⟩)
  unfold mirrorI
  rw [hm]
  by_cases h2 : r ∈ mirL
  ·exact .inr h2
  ·left
   have h3 : r ∉ [60, 65308, 62, 65310, 171, 187, 8249, 8250, 8804, (8805 : Int)] := fun h => h2 (List.mem_append.2 (.inr h))
   simp at h3
   obtain ⟨a1, a2, a3, a4, a5, a6, a7, a8, a9, a10⟩ := h3
   rw [if_neg (by decide), if_neg (by rintro (e | e); exact a1 e; exact a2 e), if_neg (by rintro (e | e); exact a3 e; exact a4 e), if_neg a5, if_neg a6, if_neg (by rintro (e | e); exact a7 e; exact a8 e), if_neg (by rintro (e | e); exact a9 e; exact a10 e)]
theorem mirror_same (r : Int) : sameP r (mirrorI r) := by
 rcases mirror_in r with h | h
 ·rw [h]; exact sameP.refl r
 ·have := List.all_eq_true.1 mirL_all r h
  rw [Bool.and_eq_true, decide_eq_true_eq] at this
  exact this.1
theorem mirror_valid (r : Int) (hv : validRune r = true) : validRune (mirrorI r) = true := by
 rcases mirror_in r with h | h
 ·rw [h]; exact hv
 ·have := List.all_eq_true.1 mirL_all r h
  rw [Bool.and_eq_true] at this
  exact this.2
end
section
theorem sameP.trans {x y z : Int} (h : sameP x y) (k : sameP y z) : sameP x z := by
 obtain ⟨a1, a2, a3, a4, a5, a6, a7, a8, a9⟩ := h
 obtain ⟨b1, b2, b3, b4, b5, b6, b7, b8, b9⟩ := k
 exact ⟨a1.trans b1, a2.trans b2, a3.trans b3, a4.trans b4, a5.trans b5, a6.trans b6, a7.trans b7, a8.trans b8, a9.trans b9⟩
theorem shp_all : (List.range 42).all (fun k => [0, 1, 2, 3].all fun f => decide (sameP (1569 + (k : Int)) (shapeI (1569 + (k : Int)) f)) && validRune (shapeI (1569 + (k : Int)) f)) = true := by decide +kernel
theorem shape_in (r form : Int) : shapeI r form = r ∨ ∃ k, k < 42 ∧ r = 1569 + ((k : Nat) : Int) ∧ ∃ f ∈ [0, 1, 2, (3 : Int)], shapeI r form = shapeI r f := by
 by_cases h : r < 1569 ∨ 1610 < r
 ·left
  unfold shapeI
  rw [if_pos (by unfold fstI; rw [if_pos h])]
 ·right
  refine ⟨(r - 1569).toNat, by omega, by omega, ?_⟩
  by_cases h3 : form = 3
  ·exact ⟨3, by simp, by rw [h3]⟩
  ·by_cases h1 : form = 1
   ·exact ⟨1, by simp, by rw [h1]⟩
   ·by_cases h2 : form = 2
    ·exact ⟨2, by simp, by rw [h2]⟩
    ·refine ⟨0, by simp, ?_⟩
     unfold shapeI
     simp only [h1, h2, h3, if_false, false_or]
     rfl
theorem shape_same (r form : Int) : sameP r (shapeI r form) := by
 rcases shape_in r form with h | ⟨k, hk, hr, f, hf, h⟩
 ·rw [h]; exact sameP.refl r
 ·have h1 := List.all_eq_true.1 shp_all k (List.mem_range.2 hk)
  have h2 := List.all_eq_true.1 h1 f hf
  rw [Bool.and_eq_true, decide_eq_true_eq, ← hr] at h2
  rw [h]
  exact h2.1
theorem shape_valid (r form : Int) (hv : validRune r = true) : validRune (shapeI r form) = true := by
 rcases shape_in r form with h | ⟨k, hk, hr, f, hf, h⟩
 ·rw [h]; exact hv
 ·have h1 := List.all_eq_true.1 shp_all k (List.mem_range.2 hk)
  have h2 := List.all_eq_true.1 h1 f hf
  rw [Bool.and_eq_true, ← hr] at h2
  rw [h]
  exact h2.2
theorem alike_of : ∀ (l m : List Int), l.length = m.length → (∀ i, i < l.length → sameP (ith l i) (ith m i)) → Alike l m
 | [], [], _, _ => .nil
 | [], _ :: _, h, _ => by cases h
 | _ :: _, [], h, _ => by cases h
 | x :: l, y :: m, h, hs => .cons (hs 0 (by simp)) (alike_of l m (by simpa using h) (fun i hi => hs (i + 1) (by simp; omega)))
theorem piece_one (s : ByteArray) : ∀ (f a : Nat), a ≤ s.size → ∀ q ∈ piecesF s f a, nextI q.2 = q.2.size
 | 0, a, ha, q, hq => by simp [piecesF] at hq
 | f + 1, a, ha, q, hq => by
   rw [piecesF] at hq
   by_cases h : a < s.size
   ·rw [if_pos h] at hq
    have hz := ext_size s a ha
    have hn := nextI_bd (s.extract a s.size) (by omega)
    rcases List.mem_cons.1 hq with rfl | hq
    ·have e : s.extract a (a + nextI (s.extract a s.size)) = (s.extract a s.size).extract 0 (nextI (s.extract a s.size)) := by
      rw [ByteArray.extract_extract]
      congr 1
      omega
     have hs : (s.extract a (a + nextI (s.extract a s.size))).size = nextI (s.extract a s.size) := by simp [ByteArray.size_extract]; omega
     show nextI (s.extract a (a + nextI (s.extract a s.size))) = (s.extract a (a + nextI (s.extract a s.size))).size
     rw [hs]
     conv => lhs; rw [e]
     exact next_cut _ _ (by omega) (Nat.le_refl _)
    ·exact piece_one s f _ (by omega) q hq
   ·rw [if_neg h] at hq; cases hq
theorem shaped_ith (cs : List Int) (i : Nat) (h : i < cs.length) : ith (shapedI cs) i = shapeI (ith cs i) (ith (formsI cs) i) := by
 unfold shapedI
 conv => lhs; unfold ith
 rw [List.getD_eq_getElem?_getD, List.getElem?_map, List.getElem?_range h]
 rfl
theorem made_same (s : ByteArray) (join : Bool) (fr tt i : Nat) (h : i < (runesI (s.extract fr tt)).length) : sameP (ith (runesI (s.extract fr tt)) i) (ith (madeI s join fr tt) i) ∧ validRune (ith (madeI s join fr tt) i) = true := by
 have hv : validRune (ith (runesI (s.extract fr tt)) i) = true := runes_valid _ (s.extract fr tt) (Nat.le_refl _) _ (List.mem_of_getElem? (ith_get h))
 unfold madeI
 split
 ·rw [shaped_ith _ _ h]
  exact ⟨shape_same _ _, shape_valid _ _ hv⟩
 ·exact ⟨sameP.refl _, hv⟩
theorem ith_cut (l : List Int) (a n i : Nat) (h : i < n) : ith ((l.drop a).take n) i = ith l (a + i) := by
 unfold ith
 rw [List.getD_eq_getElem?_getD, List.getElem?_take, if_pos h, List.getElem?_drop, List.getD_eq_getElem?_getD]
theorem become_one {T : ByteArray} (hT : nextI T = T.size) {own : List Int} (odd : Bool) (ha : Alike (runesI T) own) (hv : validAll own) : nextI (becomeI T own odd) = (becomeI T own odd).size := by
 unfold becomeI
 by_cases hb : badI T = true
 ·rw [if_pos hb]; exact hT
 ·have hb' : badI T = false := by simpa using hb
  rw [if_neg hb]
  cases odd with
  | false => rw [if_neg (by decide)]; exact one_cluster hb' hT hv ha
  | true =>
    rw [if_pos rfl]
    cases own with
    | nil =>
      have h0 : T.size = 0 := by
       have h1 := good_bytes T.size T (Nat.le_refl _) hb'
       have h2 := ha.len
       rw [List.length_eq_zero_iff.1 (h2.trans rfl)] at h1
       rw [← h1]; rfl
      have e1 : T = ⟨#[]⟩ := ByteArray.ext (Array.eq_empty_of_size_eq_zero h0)
      have h2 : Alike (runesI (bytesF [mirrorI (ith [] 0)])) [mirrorI (ith [] 0)] := by
       rw [bytes_runes [mirrorI (ith [] 0)] (fun x hx => by
        rw [List.mem_singleton] at hx
        rw [hx]
        exact mirror_valid _ (by decide))]
       exact Alike.refl _
      rw [List.tail_nil]
      decide +kernel
    | cons y t =>
      cases hr : runesI T with
      | nil => rw [hr] at ha; cases ha
      | cons x l =>
        rw [hr] at ha
        cases ha with
        | cons h1 h2 =>
          refine one_cluster hb' hT (own := mirrorI y :: t) (fun z hz => ?_) (by rw [hr]; exact .cons (h1.trans (mirror_same y)) h2)
          rcases List.mem_cons.1 hz with rfl | hz
          ·exact mirror_valid y (hv y (List.mem_cons_self ..))
          ·exact hv z (List.mem_cons_of_mem _ hz)
theorem lay2_one (s : ByteArray) (want : Int) (join raw : Bool) (ra rl : Int) : ∀ p ∈ lay2 s want join raw ra rl, nextI p.became = p.became.size := fun p hp => by
 unfold lay2 at hp
 obtain ⟨p1, hp1, rfl⟩ := List.mem_map.1 hp
 obtain ⟨p2, hp2, e⟩ := mem_map_eq (levels_map (fun p => (p.a, p.size, p.c0, p.c1)) (fun _ _ => rfl) s want raw (rowFr s ra) (foundI s (rowFr s ra) (rowTo s ra rl))) hp1
 simp only [Prod.mk.injEq] at e
 obtain ⟨ea, es, e0, e1⟩ := e
 obtain ⟨i, hi⟩ := List.mem_iff_getElem?.1 hp2
 obtain ⟨kf, hf, _, _⟩ := upB_spec s (rowA s ra) (rowA_le s ra)
 obtain ⟨kt, ht, _, _⟩ := upB_spec s (rowB s ra rl) (rowB_le s ra rl).2
 have hft : rowFr s ra ≤ rowTo s ra rl := upB_mono s _ _ (rowB_le s ra rl).1 (rowB_le s ra rl).2
 obtain ⟨_, _, _, _, g5, g6, g7, _⟩ := found_get (show Bord s (rowFr s ra) kf from hf) (show Bord s (rowTo s ra rl) kt from ht) hft i p2 hi
 have hT : nextI (s.extract p2.a (p2.a + p2.size)) = (s.extract p2.a (p2.a + p2.size)).size := by
  have hm : (p2.a, p2.size, p2.level) ∈ (inPs s (rowFr s ra) (rowTo s ra rl)).map (fun q => (q.1, q.2.size, 0)) := by
   rw [← findF_map (inPs s (rowFr s ra) (rowTo s ra rl)) 0]
   exact List.mem_map_of_mem (f := fun p : Pc => (p.a, p.size, p.level)) hp2
  obtain ⟨q, hq, eq⟩ := List.mem_map.1 hm
  simp only [Prod.mk.injEq] at eq
  have h1 := mem_inPs hq
  rw [eq.1, eq.2.1] at h1
  rw [← h1]
  exact piece_one s s.size 0 (Nat.zero_le _) q (List.mem_filter.1 hq).1
 show nextI (becomeI (s.extract p1.a (p1.a + p1.size)) (((madeI s join (rowFr s ra) (rowTo s ra rl)).drop p1.c0).take (p1.c1 - p1.c0)) (decide (p1.level % 2 = 1))) = (becomeI (s.extract p1.a (p1.a + p1.size)) (((madeI s join (rowFr s ra) (rowTo s ra rl)).drop p1.c0).take (p1.c1 - p1.c0)) (decide (p1.level % 2 = 1))).size
 rw [← ea, ← es, ← e0, ← e1]
 have hml := madeI_len s join (rowFr s ra) (rowTo s ra rl)
 have hol : (((madeI s join (rowFr s ra) (rowTo s ra rl)).drop p2.c0).take (p2.c1 - p2.c0)).length = p2.c1 - p2.c0 := by rw [List.length_take, List.length_drop]; omega
 have hrl : (runesI (s.extract p2.a (p2.a + p2.size))).length = p2.c1 - p2.c0 := by rw [← g7, List.length_take, List.length_drop]; omega
 refine become_one hT _ (alike_of _ _ (by rw [hrl, hol]) (fun j hj => ?_)) (fun x hx => ?_)
 ·rw [← g7, ith_cut _ _ _ _ (by omega), ith_cut _ _ _ _ (by omega)]
  exact (made_same s join _ _ _ (by omega)).1
 ·obtain ⟨j, hj, rfl⟩ := List.mem_iff_getElem.1 hx
  have h1 := ith_get hj
  rw [List.getElem?_eq_getElem hj] at h1
  rw [Option.some.inj h1, ith_cut _ _ _ _ (by omega)]
  exact (made_same s join _ _ _ (by omega)).2
theorem lay_good (s : ByteArray) (tab want : Int) (wideA join raw : Bool) (ra rl rw : Int) : ∀ p ∈ layL s tab want wideA join raw ra rl rw, GoodP p := fun p hp hw => by
 obtain ⟨q, hq, e⟩ := mem_map_eq (edgeF_map (fun p : Pc => (p.became, p.shown, p.wide)) (fun _ _ _ => rfl) (laySeen s want join raw ra rl) 0 (lay3 s tab want wideA join raw ra rl rw).1) hp
 simp only [Prod.mk.injEq] at e
 obtain ⟨eb, es, ew⟩ := e
 have key : GoodT q.became (q.shown, q.wide) := by
  obtain ⟨j, hj, e⟩ := List.mem_iff_getElem.1 hq
  unfold lay3 at hj e
  have hj2 := hj
  rw [layF_len] at hj2
  obtain ⟨p0, hp0⟩ : ∃ p0, (lay2 s want join raw ra rl)[j]? = some p0 := ⟨_, List.getElem?_eq_getElem hj2⟩
  obtain ⟨q', hq', hl⟩ := layF_get rw tab wideA raw _ 0 0 (tailF s (lay2 s want join raw ra rl) (lay2 s want join raw ra rl).length) j p0 hp0
  rw [List.getElem?_eq_getElem hj, e] at hq'
  have := Option.some.inj hq'
  subst this
  rcases hl with rfl | ⟨x, rfl⟩
  ·intro h
   have := lay2_wide s want join raw ra rl q (List.mem_of_getElem? hp0)
   dsimp only at h
   omega
  ·exact text_good p0.became (lay2_one s want join raw ra rl p0 (List.mem_of_getElem? hp0)) x tab wideA raw
 rw [eb, es, ew] at key
 obtain ⟨h1, h2⟩ := key hw
 refine ⟨h1, ?_⟩
 rcases h2 with h | h | h
 ·left; unfold wholeB; rw [decide_eq_true h]; rfl
 ·left; unfold wholeB; rw [h]; simp
 ·exact .inr h
end
section
def saidF (tab : Int) (wideA raw : Bool) : List (Nat × ByteArray) → Int → ByteArray × Int
 | [], x => (⟨#[]⟩, x)
 | p :: t, x => ((if 0 < (textI p.2 x tab wideA raw).2 then (textI p.2 x tab wideA raw).1 else ⟨#[]⟩) ++ (saidF tab wideA raw t (x + (textI p.2 x tab wideA raw).2)).1, (saidF tab wideA raw t (x + (textI p.2 x tab wideA raw).2)).2)
def joinT : List Ce → ByteArray
 | [] => ⟨#[]⟩
 | c :: t => c.text ++ joinT t
theorem nil_app (b : ByteArray) : (⟨#[]⟩ : ByteArray) ++ b = b := by apply ByteArray.ext; simp
theorem app_nil (b : ByteArray) : b ++ (⟨#[]⟩ : ByteArray) = b := by apply ByteArray.ext; simp
theorem app_ass (a b c : ByteArray) : a ++ b ++ c = a ++ (b ++ c) := by apply ByteArray.ext; simp
theorem joinT_app : ∀ (a b : List Ce), joinT (a ++ b) = joinT a ++ joinT b
 | [], b => by rw [List.nil_append, joinT, nil_app]
 | c :: a, b => by rw [List.cons_append, joinT, joinT_app a b, joinT, app_ass]
theorem joinT_nil : ∀ (l : List Ce), (∀ c ∈ l, c.text = ⟨#[]⟩) → joinT l = ⟨#[]⟩
 | [], _ => rfl
 | c :: t, h => by rw [joinT, h c (List.mem_cons_self ..), joinT_nil t (fun d hd => h d (List.mem_cons_of_mem _ hd)), nil_app]
theorem cons_bytes (a : UInt8) (l : List UInt8) : (⟨#[a]⟩ : ByteArray) ++ ⟨l.toArray⟩ = ⟨(a :: l).toArray⟩ := by apply ByteArray.ext; simp
theorem joinT_ones (f : Nat → UInt8) (g : Nat → Ce) (h : ∀ i, (g i).text = ⟨#[f i]⟩) : ∀ l : List Nat, joinT (l.map g) = ⟨(l.map f).toArray⟩
 | [] => rfl
 | i :: t => by rw [List.map_cons, joinT, joinT_ones f g h t, h, List.map_cons, cons_bytes]
theorem joinT_cells (p : Pc) (hg : GoodP p) (hw : 0 < p.wide) : joinT (cellsP p) = p.shown := by
 obtain ⟨h1, h2⟩ := hg hw
 unfold cellsP
 rcases h2 with hb | ⟨ha, hz⟩
 ·obtain ⟨k, hk⟩ : ∃ k, p.wide.toNat = k + 1 := ⟨p.wide.toNat - 1, by omega⟩
  rw [hk, List.range_succ_eq_map, List.map_cons, List.map_map, joinT, joinT_nil]
  ·rw [if_pos hb, app_nil]; rfl
  ·intro c hc
   obtain ⟨j, hj, rfl⟩ := List.mem_map.1 hc
   simp only [Function.comp]
   rw [if_pos hb]
   show (if j + 1 = 0 then p.shown else (⟨#[]⟩ : ByteArray)) = _
   rw [if_neg (by omega)]
 ·cases hb : wholeB p with
  | true =>
    obtain ⟨k, hk⟩ : ∃ k, p.wide.toNat = k + 1 := ⟨p.wide.toNat - 1, by omega⟩
    rw [hk, List.range_succ_eq_map, List.map_cons, List.map_map, joinT, joinT_nil]
    ·rw [if_pos rfl, app_nil]; rfl
    ·intro c hc
     obtain ⟨j, hj, rfl⟩ := List.mem_map.1 hc
     simp only [Function.comp]
     rw [if_pos trivial]
     show (if j + 1 = 0 then p.shown else (⟨#[]⟩ : ByteArray)) = _
     rw [if_neg (by omega)]
  | false =>
    rw [joinT_ones (fun i => p.shown.get! i) _ (fun i => by rw [if_neg (by decide)]), ← ext_bytes p.shown _ (by omega), show p.wide.toNat = p.shown.size by omega, ByteArray.extract_zero_size]
theorem saidF_snoc (tab : Int) (wideA raw : Bool) : ∀ (l : List (Nat × ByteArray)) (p : Nat × ByteArray) (x : Int),
 saidF tab wideA raw (l ++ [p]) x = ((saidF tab wideA raw l x).1 ++ (if 0 < (textI p.2 (saidF tab wideA raw l x).2 tab wideA raw).2 then (textI p.2 (saidF tab wideA raw l x).2 tab wideA raw).1 else ⟨#[]⟩), (saidF tab wideA raw l x).2 + (textI p.2 (saidF tab wideA raw l x).2 tab wideA raw).2)
 | [], p, x => by
   rw [List.nil_append, saidF, saidF, saidF]
   dsimp only
   rw [nil_app, app_nil]
 | q :: l, p, x => by rw [List.cons_append, saidF, saidF_snoc tab wideA raw l p, saidF, app_ass]
theorem one_enc (l : List Int) (n : Nat) (h : l.length ≤ n) : (runesBytes l).size ≤ 4 * n := by
 have := runesBytes_size_le l
 omega
theorem oneI_size (c : ByteArray) (rs : List Int) (col tab : Int) (wide raw : Bool) : (oneI c rs col tab wide raw).1.size ≤ c.size + 130 := by
 have h1 := stopI_bd col tab
 have h3 := namedS_size (ith rs 0).toNat
 have h4 := (spaces_ascii (stopI col tab).toNat).2
 have h5 := one_enc [bits BinOp.xor IntKind.i32 (ith rs 0) 64] 1 (Nat.le_refl _)
 have h6 := one_enc (rs.take 31) 31 (by rw [List.length_take]; omega)
 have h7 : (⟨#[94]⟩ ++ runesBytes [bits BinOp.xor IntKind.i32 (ith rs 0) 64] : ByteArray).size ≤ 5 := by rw [ByteArray.size_append]; show 1 + _ ≤ 5; omega
 have h8 : (⟨#[226, 151, 140]⟩ ++ runesBytes (rs.take 31) : ByteArray).size ≤ 127 := by rw [ByteArray.size_append]; show 3 + _ ≤ 127; omega
 have h9 : (⟨#[]⟩ : ByteArray).size = 0 := rfl
 unfold oneI
 repeat' split
 all_goals (dsimp only; omega)
theorem textI_size (c : ByteArray) (col tab : Int) (wide raw : Bool) : (textI c col tab wide raw).1.size ≤ c.size + 130 := by
 have hz : (c.extract 0 (nextI c)).size ≤ c.size := by simp [ByteArray.size_extract]; omega
 unfold textI textD
 split
 ·show 0 ≤ _; omega
 split
 ·show (⟨#[60]⟩ ++ strOfNums [digI (((c.extract 0 (nextI c)).get! 0).toNat / 16), digI (((c.extract 0 (nextI c)).get! 0).toNat % 16)] ++ ⟨#[62]⟩ : ByteArray).size ≤ _
  rw [ByteArray.size_append, ByteArray.size_append, strOfNums_size]
  show 1 + 2 + 1 ≤ _
  omega
 ·have := oneI_size (c.extract 0 (nextI c)) (runesI (c.extract 0 (nextI c))) col tab wide raw
  omega
theorem said_size (tab : Int) (wideA raw : Bool) (M : Nat) : ∀ (l : List (Nat × ByteArray)) (x : Int), (∀ p ∈ l, p.2.size ≤ M) → (saidF tab wideA raw l x).1.size ≤ (M + 130) * l.length
 | [], x, _ => Nat.zero_le _
 | p :: l, x, h => by
   have h1 := h p (List.mem_cons_self ..)
   have h2 := textI_size p.2 x tab wideA raw
   have h3 := said_size tab wideA raw M l (x + (textI p.2 x tab wideA raw).2) (fun q hq => h q (List.mem_cons_of_mem _ hq))
   rw [saidF, ByteArray.size_append, List.length_cons, Nat.mul_succ]
   have h4 : (if 0 < (textI p.2 x tab wideA raw).2 then (textI p.2 x tab wideA raw).1 else ⟨#[]⟩ : ByteArray).size ≤ M + 130 := by
    split
    ·omega
    ·exact Nat.zero_le _
   omega
theorem said_bd (tab : Int) (wideA raw : Bool) : ∀ (l : List (Nat × ByteArray)) (x : Int), x ≤ (saidF tab wideA raw l x).2 ∧ (saidF tab wideA raw l x).2 ≤ x + 19 * l.length
 | [], x => by rw [saidF]; simp
 | p :: l, x => by
   have h1 := textI_bd p.2 x tab wideA raw
   have h2 := said_bd tab wideA raw l (x + (textI p.2 x tab wideA raw).2)
   rw [saidF, List.length_cons]
   dsimp only
   omega
theorem joinT_take (l : List Ce) (k : Nat) (c : Ce) (h : l[k]? = some c) : joinT (l.take (k + 1)) = joinT (l.take k) ++ c.text := by
 rw [List.take_add_one, h, joinT_app]
 show _ ++ (c.text ++ ⟨#[]⟩) = _
 rw [app_nil]
theorem joinT_le (l : List Ce) (k : Nat) : (joinT (l.take k)).size ≤ (joinT l).size := by
 have h := joinT_app (l.take k) (l.drop k)
 rw [List.take_append_drop] at h
 rw [h, ByteArray.size_append]
 omega
def partF : List (ByteArray × Int) → ByteArray
 | [] => ⟨#[]⟩
 | q :: t => (if 0 < q.2 then q.1 else ⟨#[]⟩) ++ partF t
theorem joinT_cellsL : ∀ L : List Pc, (∀ p ∈ L, GoodP p) → joinT (cellsL L) = partF (L.map fun p => (p.shown, p.wide))
 | [], _ => rfl
 | p :: L, h => by
   have ih := joinT_cellsL L (fun q hq => h q (List.mem_cons_of_mem _ hq))
   have hc : cellsL (p :: L) = (if 0 < p.wide then cellsP p else []) ++ cellsL L := by unfold cellsL; rw [List.flatMap_cons]
   rw [hc, joinT_app, ih, List.map_cons, partF]
   by_cases hw : 0 < p.wide
   ·rw [if_pos hw, if_pos hw, joinT_cells p (h p (List.mem_cons_self ..)) hw]
   ·rw [if_neg hw, if_neg hw, joinT]
theorem layF_said (rw tab : Int) (wideA raw : Bool) : ∀ (L : List Pc) (ps : List (Nat × ByteArray)) (i : Nat) (x t : Int), L.map (·.became) = ps.map (·.2) → 0 ≤ t → x + 19 * (L.length : Int) ≤ rw →
 partF ((layF rw tab wideA raw L i x t).1.map fun p => (p.shown, p.wide)) = (saidF tab wideA raw ps x).1 ∧ (layF rw tab wideA raw L i x t).2 = (saidF tab wideA raw ps x).2
 | [], [], i, x, t, _, _, _ => ⟨rfl, rfl⟩
 | [], _ :: _, _, _, _, h, _, _ => by cases h
 | _ :: _, [], _, _, _, h, _, _ => by cases h
 | p :: L, q :: ps, i, x, t, h, ht, hx => by
   rw [List.map_cons, List.map_cons] at h
   obtain ⟨h1, h2⟩ := List.cons.inj h
   have hbd := textI_bd p.became x tab wideA raw
   rw [List.length_cons] at hx
   have htl : tlF rw i x (textI p.became x tab wideA raw).2 t = t := by unfold tlF; rw [if_neg (by omega)]
   rw [layF_cons, htl, if_pos ht, h1] at *
   obtain ⟨i1, i2⟩ := layF_said rw tab wideA raw L ps (i + 1) (x + (textI q.2 x tab wideA raw).2) t h2 ht (by omega)
   exact ⟨by rw [List.map_cons, partF, saidF, i1], by rw [saidF, i2]⟩
theorem lay2_whole (s : ByteArray) (want : Int) : (lay2 s want false true 0 s.size).map (·.became) = (piecesI s).map (·.2) := by
 have e1 : rowFr s 0 = 0 := by
  obtain ⟨k, h1, h2, h3⟩ := upB_spec s 0 (Nat.zero_le _)
  have := h3 0 0 (Bord.zero s) (Nat.le_refl _)
  unfold rowFr rowA
  rw [show min (0 : Int).toNat s.size = 0 by omega]
  omega
 have e2 : rowTo s 0 s.size = s.size := by
  obtain ⟨k, h1, h2, h3⟩ := upB_spec s s.size (Nat.le_refl _)
  have := h3 _ _ (bord_end s) (Nat.le_refl _)
  unfold rowTo rowB rowA
  rw [show min (0 : Int).toNat s.size + min (s.size : Int).toNat (s.size - min (0 : Int).toNat s.size) = s.size by omega]
  omega
 have hin : inPs s 0 s.size = piecesI s := by
  have h := (inPs_spec (Bord.zero s) (bord_end s) (Nat.zero_le _)).1
  rw [piecesF_nil, List.append_nil] at h
  exact h.symm
 unfold lay2
 rw [e1, e2]
 have hlv : levelsI s want true 0 (foundI s 0 s.size) = foundI s 0 s.size := by unfold levelsI; rw [if_pos rfl]
 rw [hlv]
 apply List.ext_getElem?
 intro i
 rw [List.getElem?_map, List.getElem?_map, List.getElem?_map, ← hin]
 cases hq : (inPs s 0 s.size)[i]? with
 | none =>
   have : (foundI s 0 s.size)[i]? = none := by
    rw [List.getElem?_eq_none_iff] at hq ⊢
    unfold foundI
    rw [findF_len]
    exact hq
   rw [this]
   rfl
 | some q =>
   obtain ⟨p, hp, ha, hz, hl⟩ : ∃ p, (foundI s 0 s.size)[i]? = some p ∧ p.a = q.1 ∧ p.size = q.2.size ∧ p.level = 0 := ⟨_, findF_get (inPs s 0 s.size) 0 i q hq, rfl, rfl, rfl⟩
   obtain ⟨_, _, _, _, _, _, g7, _⟩ := found_get (Bord.zero s) (bord_end s) (Nat.zero_le _) i p hp
   have hm := mem_inPs (List.mem_of_getElem? hq)
   rw [hp]
   show some (becomeI (s.extract p.a (p.a + p.size)) (((madeI s false 0 s.size).drop p.c0).take (p.c1 - p.c0)) (decide (p.level % 2 = 1))) = some q.2
   rw [show madeI s false 0 s.size = runesI (s.extract 0 s.size) by unfold madeI; rw [if_neg (by decide)], g7, hl, ha, hz, ← hm]
   congr 1
   unfold becomeI
   by_cases hb : badI q.2 = true
   ·rw [if_pos hb]
   ·rw [if_neg hb, if_neg (by decide)]
    exact good_bytes q.2.size q.2 (Nat.le_refl _) (by simpa using hb)
theorem cells_raw (s : ByteArray) (tab want : Int) (wideA join : Bool) (ra rl rw : Int) : cellsI (layI s tab want wideA join true ra rl rw) = cellsL (layL s tab want wideA join true ra rl rw) := by
 unfold cellsI layI
 dsimp only
 rw [seen_raw, cellsF_ids _ _ _ (by rw [layL_len]; omega), List.drop_zero]
theorem shown_plain (s : ByteArray) (hs : s.size ≤ 2097152) (tab want : Int) (wideA : Bool) : joinT (cellsI (layI s tab want wideA false true 0 s.size 1073741824)) = (saidF tab wideA true (piecesI s) 0).1 ∧
 ((cellsI (layI s tab want wideA false true 0 s.size 1073741824)).length : Int) = (saidF tab wideA true (piecesI s) 0).2 := by
 have hln : (lay2 s want false true 0 s.size).length = (piecesI s).length := by
  have := congrArg List.length (lay2_whole s want)
  simpa using this
 have hpl := pieces_len s
 obtain ⟨h1, h2⟩ := layF_said 1073741824 tab wideA true (lay2 s want false true 0 s.size) (piecesI s) 0 0 (tailF s (lay2 s want false true 0 s.size) (lay2 s want false true 0 s.size).length) (lay2_whole s want) (Int.natCast_nonneg _) (by omega)
 refine ⟨?_, ?_⟩
 ·rw [cells_raw, joinT_cellsL _ (lay_good s tab want wideA false true 0 s.size 1073741824), ← h1]
  congr 1
  exact edgeF_map (fun p : Pc => (p.shown, p.wide)) (fun _ _ _ => rfl) _ _ _
 ·rw [(straight_plain s tab want wideA false 0 s.size 1073741824).2.2.1, ← lay3_sum]
  exact h2
end
section
open Go.RowKit Go.Proofs Go.Shelf
attribute [local go_sem] Oper.semAt_some
theorem raw_lv (s : ByteArray) (want : Int) (join : Bool) (ra rl : Int) : ∀ p ∈ lay2 s want join true ra rl, p.level < 256 := fun p hp => by
 obtain ⟨q, hq, e⟩ := mem_map_eq (lay2_raw s want join ra rl (fun p => p.level) (fun _ _ => rfl)) hp
 have := (found_zero _ _ q hq).2
 omega
end
section
open Go.RowKit Go.Proofs Go.Shelf
theorem eq_fnN (n : Nat) (fn : Fn) (fs cs : Array Value) (w : World) : (Op.equalIn (n + 1) 40 (.func fn fs cs) .nilFunc).run Tryz.prog w = .ok false w := by
 unfold Op.equalIn
 simp [run_underlying Tryz.underlying40, Sem.run_bind]
theorem eq_fn (fn : Fn) (fs cs : Array Value) (w : World) : (binOp BinOp.eql 40 (.func fn fs cs) .nilFunc).run Tryz.prog w = .ok (.bool false) w := by
 have h := eq_fnN 9999 fn fs cs w
 simp only [binOp, Op.equal]
 rw [show Op.maxDepth = 9999 + 1 from rfl]
 simp [h]
end
end Go.Proofs.YtlbclfmbejjneaaGreatDoor
