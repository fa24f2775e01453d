/- Part 45 of the proof (merged by a program out of the texts OneC, MirP, GoodP): lemmas of no further condition than each states. -/
import Derived.Test.YtlbclfmbejjneaaGreatDoorJ44
namespace Go.Proofs.YtlbclfmbejjneaaGreatDoor
set_option linter.unusedVariables false
set_option linter.unusedSimpArgs false
section
def moreR (x : Int) : Nat → List Int → Nat → Int → Nat
 | 0, _, _, _ => 0
 | _ + 1, [], _, _ => 0
 | f + 1, y :: t, n, z => if goesOn x z y n = true then moreR x f t (n + 1) y + 1 else 0
def nextR : List Int → Nat
 | [] => 0
 | x :: t => if aloneB x = true then (if x = 13 ∧ t.head? = some 10 then 2 else 1) else moreR x 31 t 1 x + 1
theorem bytesF_app : ∀ (l m : List Int), bytesF (l ++ m) = bytesF l ++ bytesF m
 | [], m => by
   apply ByteArray.ext
   simp [bytesF]
 | r :: t, m => by rw [List.cons_append, bytesF, bytesF, bytesF_app t, ByteArray.append_assoc]
theorem bytesF_take_size (l : List Int) (k : Nat) (h : (bytesF (l.take k)).size = (bytesF l).size) : l.length ≤ k := by
 have h1 : bytesF l = bytesF (l.take k) ++ bytesF (l.drop k) := by rw [← bytesF_app, List.take_append_drop]
 rw [h1, ByteArray.size_append] at h
 have h2 : (bytesF (l.drop k)).size = 0 := by omega
 cases hd : l.drop k with
 | nil => exact List.drop_eq_nil_iff.1 hd
 | cons r t =>
   exfalso
   rw [hd, bytesF, ByteArray.size_append] at h2
   have := enc_pos r
   omega
theorem enc_bad (r : Int) (hv : validRune r = true) : ¬ (r = 65533 ∧ (Utf8.encode r).size = 1) := by
 rintro ⟨rfl, h⟩
 have : (Utf8.encode 65533).size = 3 := by decide
 omega
theorem more_runes (x : Int) : ∀ (f n : Nat) (z : Int) (pre rest : List Int), validAll rest → moreF x (bytesF (pre ++ rest)) f n z (bytesF pre).size = (bytesF (pre ++ rest.take (moreR x f rest n z))).size
 | 0, n, z, pre, rest, h => by rw [moreF, moreR]; simp
 | f + 1, n, z, pre, [], h => by
   rw [moreF, moreR, if_pos (.inl (by rw [List.append_nil]))]
   simp
 | f + 1, n, z, pre, y :: t, h => by
   have hv := h y (by simp)
   have hg := bytes_go y t hv
   have hy : 0 ≤ y := by unfold validRune at hv; rw [decide_eq_true_eq] at hv; omega
   have hx : (bytesF (pre ++ y :: t)).extract (bytesF pre).size (bytesF (pre ++ y :: t)).size = bytesF (y :: t) := by rw [bytesF_app]; exact app_tail _ _
   have e1 : decR (bytesF (y :: t)) = y := by unfold decR; rw [hg]; show ((y.toNat : Nat) : Int) = y; omega
   have e2 : decN (bytesF (y :: t)) = (Utf8.encode y).size := by unfold decN; rw [hg]
   have hp := enc_pos y
   have hz : (bytesF (pre ++ y :: t)).size = (bytesF pre).size + ((Utf8.encode y).size + (bytesF t).size) := by rw [bytesF_app, ByteArray.size_append, bytesF, ByteArray.size_append]
   rw [moreF, moreR, hx, e1, e2, if_neg (by
    rintro (e | e)
    ·omega
    ·exact enc_bad y hv e)]
   by_cases hgo : goesOn x z y n = true
   ·rw [if_pos hgo, if_pos hgo, List.take_succ_cons]
    have h1 := more_runes x f (n + 1) y (pre ++ [y]) t (fun r hr => h r (by simp [hr]))
    have h2 : (bytesF (pre ++ [y])).size = (bytesF pre).size + (Utf8.encode y).size := by
     rw [bytesF_app, ByteArray.size_append]
     congr 1
     rw [bytesF, ByteArray.size_append]
     rfl
    rw [h2] at h1
    rw [show pre ++ [y] ++ t = pre ++ y :: t by simp, show pre ++ [y] ++ t.take (moreR x f t (n + 1) y) = pre ++ y :: t.take (moreR x f t (n + 1) y) by simp] at h1
    exact h1
   ·rw [if_neg hgo, if_neg hgo]
    simp
theorem next_runes (l : List Int) (h : validAll l) : nextI (bytesF l) = (bytesF (l.take (nextR l))).size := by
 cases l with
 | nil => rw [nextR]; unfold nextI; rfl
 | cons x t =>
   have hv := h x (by simp)
   have hg := bytes_go x t hv
   have hx : 0 ≤ x := by unfold validRune at hv; rw [decide_eq_true_eq] at hv; omega
   have e1 : decR (bytesF (x :: t)) = x := by unfold decR; rw [hg]; show ((x.toNat : Nat) : Int) = x; omega
   have e2 : decN (bytesF (x :: t)) = (Utf8.encode x).size := by unfold decN; rw [hg]
   have hp := enc_pos x
   have hz : (bytesF (x :: t)).size = (Utf8.encode x).size + (bytesF t).size := by rw [bytesF, ByteArray.size_append]
   unfold nextI
   rw [if_neg (by omega), e1, e2, nextR]
   have hnb := enc_bad x hv
   have hone : (bytesF [x]).size = (Utf8.encode x).size := by rw [bytesF, ByteArray.size_append]; rfl
   by_cases ha : aloneB x = true
   ·rw [if_pos (.inr ha), if_pos ha]
    have key : (x = 13 ∧ 1 < (bytesF (x :: t)).size ∧ (bytesF (x :: t)).get! 1 = 10) ↔ (x = 13 ∧ t.head? = some 10) := by
     constructor
     ·rintro ⟨rfl, h1, h2⟩
      refine ⟨rfl, ?_⟩
      have e13 : (Utf8.encode 13).size = 1 := by decide
      have hg1 : (bytesF (13 :: t)).get! 1 = (bytesF t).get! 0 := by
       have := ext_get (bytesF (13 :: t)) 1 0 (by omega)
       rw [Nat.add_zero] at this
       rw [← this]
       congr 1
       have := app_tail (Utf8.encode 13) (bytesF t)
       rw [e13] at this
       rw [bytesF]; exact this
      cases t with
      | nil => exfalso; rw [hz, e13] at h1; simp [bytesF, ByteArray.size] at h1
      | cons y t =>
        have hvy := h y (by simp)
        have hgy := bytes_go y t hvy
        have hy : 0 ≤ y := by unfold validRune at hvy; rw [decide_eq_true_eq] at hvy; omega
        have hpy := enc_pos y
        have hzy : 0 < (bytesF (y :: t)).size := by rw [bytesF, ByteArray.size_append]; omega
        rw [← dec_go _ hzy, Lib.decode_at, ← hg1, h2] at hgy
        unfold Lib.decodeN at hgy
        rw [if_pos (by decide)] at hgy
        have := congrArg Prod.fst hgy
        simp at this
        have hyv : y = 10 := by
         have h10 : (10 : UInt8).toNat = 10 := rfl
         omega
        rw [hyv]; rfl
     ·rintro ⟨rfl, h1⟩
      cases t with
      | nil => cases h1
      | cons y t =>
        have : y = 10 := by simpa using h1
        subst this
        have e13 : (Utf8.encode 13).size = 1 := by decide
        have e10 : (Utf8.encode 10) = ⟨#[10]⟩ := by decide
        refine ⟨rfl, ?_, ?_⟩
        ·rw [hz, e13, bytesF, ByteArray.size_append, e10]
         show 1 < 1 + (1 + _); omega
        ·have hl : (bytesF (13 :: 10 :: t)).size = 1 + (1 + (bytesF t).size) := by rw [hz, e13, bytesF, ByteArray.size_append, e10]; rfl
         have := ext_get (bytesF (13 :: 10 :: t)) 1 0 (by omega)
         rw [Nat.add_zero] at this
         rw [← this]
         have h3 := app_tail (Utf8.encode 13) (bytesF (10 :: t))
         rw [e13] at h3
         rw [show bytesF (13 :: 10 :: t) = Utf8.encode 13 ++ bytesF (10 :: t) from rfl, h3, bytesF, e10]
         exact get_app #[10] _ 0 (by simp)
    by_cases hk : x = 13 ∧ t.head? = some 10
    ·rw [if_pos (key.2 hk), if_pos hk]
     obtain ⟨rfl, h1⟩ := hk
     cases t with
     | nil => cases h1
     | cons y t =>
       have : y = 10 := by simpa using h1
       subst this
       have e13 : (Utf8.encode 13).size = 1 := by decide
       have e10 : (Utf8.encode 10).size = 1 := by decide
       rw [List.take_succ_cons, List.take_succ_cons, List.take_zero, bytesF, bytesF, ByteArray.size_append, ByteArray.size_append, e13, e10]
       rfl
    ·rw [if_neg (fun h => hk (key.1 h)), if_neg hk, List.take_succ_cons, List.take_zero, hone]
   ·rw [if_neg (by rintro (e | e); exact hnb e; exact ha e), if_neg ha, List.take_succ_cons]
    have := more_runes x 31 1 x [x] t (fun r hr => h r (by simp [hr]))
    rw [hone] at this
    exact this
def sameP (x y : Int) : Prop := aloneB x = aloneB y ∧ (kindI x = 2 ↔ kindI y = 2) ∧ joinerB x = joinerB y ∧ regionalB x = regionalB y ∧ pictureB x = pictureB y ∧ partI x = partI y ∧ (x = 8205 ↔ y = 8205) ∧ (x = 13 ↔ y = 13) ∧ (x = 10 ↔ y = 10)
theorem sameP.refl (x : Int) : sameP x x := ⟨rfl, Iff.rfl, rfl, rfl, rfl, rfl, Iff.rfl, Iff.rfl, Iff.rfl⟩
theorem goes_same {x z y x' z' y' : Int} (hx : sameP x x') (hz : sameP z z') (hy : sameP y y') (n : Nat) : goesOn x z y n = goesOn x' z' y' n := by
 obtain ⟨_, _, _, x4, x5, _, _, _, _⟩ := hx
 obtain ⟨_, _, _, _, _, z6, z7, _, _⟩ := hz
 obtain ⟨_, y2, y3, y4, y5, y6, _, _, _⟩ := hy
 unfold goesOn goesB
 rw [y3, x4, y4, x5, y5, z6, y6, show decide (kindI y = 2) = decide (kindI y' = 2) from decide_eq_decide.2 y2, show decide (z = 8205) = decide (z' = 8205) from decide_eq_decide.2 z7]
inductive Alike : List Int → List Int → Prop
 | nil : Alike [] []
 | cons {x y : Int} {l m : List Int} : sameP x y → Alike l m → Alike (x :: l) (y :: m)
theorem Alike.refl : ∀ l : List Int, Alike l l
 | [] => .nil
 | x :: t => .cons (sameP.refl x) (Alike.refl t)
theorem more_same {x x' : Int} (hx : sameP x x') : ∀ (f : Nat) {l m : List Int} (n : Nat) {z z' : Int}, Alike l m → sameP z z' → moreR x f l n z = moreR x' f m n z'
 | 0, _, _, _, _, _, _, _ => rfl
 | f + 1, _, _, n, z, z', .nil, hz => rfl
 | f + 1, _, _, n, z, z', .cons (x := y) (y := y') h t, hz => by rw [moreR, moreR, goes_same hx hz h n, more_same hx f (n + 1) t h]
theorem next_same {l m : List Int} (h : Alike l m) : nextR l = nextR m := by
 cases h with
 | nil => rfl
 | cons hx ht =>
   rename_i x y l m
   rw [nextR, nextR, hx.1, more_same hx 31 1 ht hx]
   have e13 := hx.2.2.2.2.2.2.2.1
   have hh : (l.head? = some 10) ↔ (m.head? = some 10) := by
    cases ht with
    | nil => exact Iff.rfl
    | cons h _ =>
      have := h.2.2.2.2.2.2.2.2
      simp [this]
   have : (x = 13 ∧ l.head? = some 10) ↔ (y = 13 ∧ m.head? = some 10) := by rw [e13, hh]
   simp only [this]
theorem Alike.len {l m : List Int} (h : Alike l m) : l.length = m.length := by
 induction h with
 | nil => rfl
 | cons _ _ ih => rw [List.length_cons, List.length_cons, ih]
theorem one_cluster {c : ByteArray} (hb : badI c = false) (hn : nextI c = c.size) {own : List Int} (hv : validAll own) (ha : Alike (runesI c) own) : nextI (bytesF own) = (bytesF own).size := by
 have hc : bytesF (runesI c) = c := good_bytes c.size c (Nat.le_refl _) hb
 have h1 := next_runes (runesI c) (runes_valid c.size c (Nat.le_refl _))
 rw [hc, hn] at h1
 have h2 := bytesF_take_size (runesI c) (nextR (runesI c)) (by rw [← h1, hc])
 rw [next_runes own hv, ← next_same ha, List.take_of_length_le (by rw [← ha.len]; exact h2)]
end
section
instance (x y : Int) : Decidable (sameP x y) := by unfold sameP; exact inferInstance
def mirL : List Int := brL ++ [60, 65308, 62, 65310, 171, 187, 8249, 8250, 8804, 8805]
theorem mirL_all : mirL.all (fun r => decide (sameP r (mirrorI r)) && validRune (mirrorI r)) = true := by decide +kernel
theorem brL_len : brL.length = 30 := by decide
theorem mirror_in (r : Int) : mirrorI r = r ∨ r ∈ mirL := by
 by_cases h : ∃ j, j < 30 ∧ ith brL j = r
 ·obtain ⟨j, hj, e⟩ := h
  right
  unfold mirL
  refine List.mem_append.2 (.inl ?_)
  rw [← e]
  exact List.mem_of_getElem? (ith_get (by rw [brL_len]; exact hj))
 ·have hm := pairI_miss r (fun j hj e => h ⟨j, hj, e⟩)
  unfold mirrorI
  rw [hm]
  by_cases h2 : r ∈ mirL
  ·exact .inr h2
  ·left
   have h3 : r ∉ [60, 65308, 62, 65310, 171, 187, 8249, 8250, 8804, (8805 : Int)] := fun h => h2 (List.mem_append.2 (.inr h))
   simp at h3
   obtain ⟨a1, a2, a3, a4, a5, a6, a7, a8, a9, a10⟩ := h3
   rw [if_neg (by decide), if_neg (by rintro (e | e); exact a1 e; exact a2 e), if_neg (by rintro (e | e); exact a3 e; exact a4 e), if_neg a5, if_neg a6, if_neg (by rintro (e | e); exact a7 e; exact a8 e), if_neg (by rintro (e | e); exact a9 e; exact a10 e)]
theorem mirror_same (r : Int) : sameP r (mirrorI r) := by
 rcases mirror_in r with h | h
 ·rw [h]; exact sameP.refl r
 ·have := List.all_eq_true.1 mirL_all r h
  rw [Bool.and_eq_true, decide_eq_true_eq] at this
  exact this.1
theorem mirror_valid (r : Int) (hv : validRune r = true) : validRune (mirrorI r) = true := by
 rcases mirror_in r with h | h
 ·rw [h]; exact hv
 ·have := List.all_eq_true.1 mirL_all r h
  rw [Bool.and_eq_true] at this
  exact this.2
end
section
theorem sameP.trans {x y z : Int} (h : sameP x y) (k : sameP y z) : sameP x z := by
 obtain ⟨a1, a2, a3, a4, a5, a6, a7, a8, a9⟩ := h
 obtain ⟨b1, b2, b3, b4, b5, b6, b7, b8, b9⟩ := k
 exact ⟨a1.trans b1, a2.trans b2, a3.trans b3, a4.trans b4, a5.trans b5, a6.trans b6, a7.trans b7, a8.trans b8, a9.trans b9⟩
theorem shp_all : (List.range 42).all (fun k => [0, 1, 2, 3].all fun f => decide (sameP (1569 + (k : Int)) (shapeI (1569 + (k : Int)) f)) && validRune (shapeI (1569 + (k : Int)) f)) = true := by decide +kernel
theorem shape_in (r form : Int) : shapeI r form = r ∨ ∃ k, k < 42 ∧ r = 1569 + ((k : Nat) : Int) ∧ ∃ f ∈ [0, 1, 2, (3 : Int)], shapeI r form = shapeI r f := by
 by_cases h : r < 1569 ∨ 1610 < r
 ·left
  unfold shapeI
  rw [if_pos (by unfold fstI; rw [if_pos h])]
 ·right
  refine ⟨(r - 1569).toNat, by omega, by omega, ?_⟩
  by_cases h3 : form = 3
  ·exact ⟨3, by simp, by rw [h3]⟩
  ·by_cases h1 : form = 1
   ·exact ⟨1, by simp, by rw [h1]⟩
   ·by_cases h2 : form = 2
    ·exact ⟨2, by simp, by rw [h2]⟩
    ·refine ⟨0, by simp, ?_⟩
     unfold shapeI
     simp only [h1, h2, h3, if_false, false_or]
     rfl
theorem shape_same (r form : Int) : sameP r (shapeI r form) := by
 rcases shape_in r form with h | ⟨k, hk, hr, f, hf, h⟩
 ·rw [h]; exact sameP.refl r
 ·have h1 := List.all_eq_true.1 shp_all k (List.mem_range.2 hk)
  have h2 := List.all_eq_true.1 h1 f hf
  rw [Bool.and_eq_true, decide_eq_true_eq, ← hr] at h2
  rw [h]
  exact h2.1
theorem shape_valid (r form : Int) (hv : validRune r = true) : validRune (shapeI r form) = true := by
 rcases shape_in r form with h | ⟨k, hk, hr, f, hf, h⟩
 ·rw [h]; exact hv
 ·have h1 := List.all_eq_true.1 shp_all k (List.mem_range.2 hk)
  have h2 := List.all_eq_true.1 h1 f hf
  rw [Bool.and_eq_true, ← hr] at h2
  rw [h]
  exact h2.2
theorem alike_of : ∀ (l m : List Int), l.length = m.length → (∀ i, i < l.length → sameP (ith l i) (ith m i)) → Alike l m
 | [], [], _, _ => .nil
 | [], _ :: _, h, _ => by cases h
 | _ :: _, [], h, _ => by cases h
 | x :: l, y :: m, h, hs => .cons (hs 0 (by simp)) (alike_of l m (by simpa using h) (fun i hi => hs (i + 1) (by simp; omega)))
theorem piece_one (s : ByteArray) : ∀ (f a : Nat), a ≤ s.size → ∀ q ∈ piecesF s f a, nextI q.2 = q.2.size
 | 0, a, ha, q, hq => by simp [piecesF] at hq
 | f + 1, a, ha, q, hq => by
   rw [piecesF] at hq
   by_cases h : a < s.size
   ·rw [if_pos h] at hq
    have hz := ext_size s a ha
    have hn := nextI_bd (s.extract a s.size) (by omega)
    rcases List.mem_cons.1 hq with rfl | hq
    ·have e : s.extract a (a + nextI (s.extract a s.size)) = (s.extract a s.size).extract 0 (nextI (s.extract a s.size)) := by
      rw [ByteArray.extract_extract]
      congr 1
      omega
     have hs : (s.extract a (a + nextI (s.extract a s.size))).size = nextI (s.extract a s.size) := by simp [ByteArray.size_extract]; omega
     show nextI (s.extract a (a + nextI (s.extract a s.size))) = (s.extract a (a + nextI (s.extract a s.size))).size
     rw [hs]
     conv => lhs; rw [e]
     exact next_cut _ _ (by omega) (Nat.le_refl _)
    ·exact piece_one s f _ (by omega) q hq
   ·rw [if_neg h] at hq; cases hq
theorem shaped_ith (cs : List Int) (i : Nat) (h : i < cs.length) : ith (shapedI cs) i = shapeI (ith cs i) (ith (formsI cs) i) := by
 unfold shapedI
 conv => lhs; unfold ith
 rw [List.getD_eq_getElem?_getD, List.getElem?_map, List.getElem?_range h]
 rfl
theorem made_same (s : ByteArray) (join : Bool) (fr tt i : Nat) (h : i < (runesI (s.extract fr tt)).length) : sameP (ith (runesI (s.extract fr tt)) i) (ith (madeI s join fr tt) i) ∧ validRune (ith (madeI s join fr tt) i) = true := by
 have hv : validRune (ith (runesI (s.extract fr tt)) i) = true := runes_valid _ (s.extract fr tt) (Nat.le_refl _) _ (List.mem_of_getElem? (ith_get h))
 unfold madeI
 split
 ·rw [shaped_ith _ _ h]
  exact ⟨shape_same _ _, shape_valid _ _ hv⟩
 ·exact ⟨sameP.refl _, hv⟩
theorem ith_cut (l : List Int) (a n i : Nat) (h : i < n) : ith ((l.drop a).take n) i = ith l (a + i) := by
 unfold ith
 rw [List.getD_eq_getElem?_getD, List.getElem?_take, if_pos h, List.getElem?_drop, List.getD_eq_getElem?_getD]
theorem become_one {T : ByteArray} (hT : nextI T = T.size) {own : List Int} (odd : Bool) (ha : Alike (runesI T) own) (hv : validAll own) : nextI (becomeI T own odd) = (becomeI T own odd).size := by
 unfold becomeI
 by_cases hb : badI T = true
 ·rw [if_pos hb]; exact hT
 ·have hb' : badI T = false := by simpa using hb
  rw [if_neg hb]
  cases odd with
  | false => rw [if_neg (by decide)]; exact one_cluster hb' hT hv ha
  | true =>
    rw [if_pos rfl]
    cases own with
    | nil =>
      have h0 : T.size = 0 := by
       have h1 := good_bytes T.size T (Nat.le_refl _) hb'
       have h2 := ha.len
       rw [List.length_eq_zero_iff.1 (h2.trans rfl)] at h1
       rw [← h1]; rfl
      have e1 : T = ⟨#[]⟩ := ByteArray.ext (Array.eq_empty_of_size_eq_zero h0)
      have h2 : Alike (runesI (bytesF [mirrorI (ith [] 0)])) [mirrorI (ith [] 0)] := by
       rw [bytes_runes [mirrorI (ith [] 0)] (fun x hx => by
        rw [List.mem_singleton] at hx
        rw [hx]
        exact mirror_valid _ (by decide))]
       exact Alike.refl _
      rw [List.tail_nil]
      decide +kernel
    | cons y t =>
      cases hr : runesI T with
      | nil => rw [hr] at ha; cases ha
      | cons x l =>
        rw [hr] at ha
        cases ha with
        | cons h1 h2 =>
          refine one_cluster hb' hT (own := mirrorI y :: t) (fun z hz => ?_) (by rw [hr]; exact .cons (h1.trans (mirror_same y)) h2)
          rcases List.mem_cons.1 hz with rfl | hz
          ·exact mirror_valid y (hv y (List.mem_cons_self ..))
          ·exact hv z (List.mem_cons_of_mem _ hz)
theorem lay2_one (s : ByteArray) (want : Int) (join raw : Bool) (ra rl : Int) : ∀ p ∈ lay2 s want join raw ra rl, nextI p.became = p.became.size := fun p hp => by
 unfold lay2 at hp
 obtain ⟨p1, hp1, rfl⟩ := List.mem_map.1 hp
 obtain ⟨p2, hp2, e⟩ := mem_map_eq (levels_map (fun p => (p.a, p.size, p.c0, p.c1)) (fun _ _ => rfl) s want raw (rowFr s ra) (foundI s (rowFr s ra) (rowTo s ra rl))) hp1
 simp only [Prod.mk.injEq] at e
 obtain ⟨ea, es, e0, e1⟩ := e
 obtain ⟨i, hi⟩ := List.mem_iff_getElem?.1 hp2
 obtain ⟨kf, hf, _, _⟩ := upB_spec s (rowA s ra) (rowA_le s ra)
 obtain ⟨kt, ht, _, _⟩ := upB_spec s (rowB s ra rl) (rowB_le s ra rl).2
 have hft : rowFr s ra ≤ rowTo s ra rl := upB_mono s _ _ (rowB_le s ra rl).1 (rowB_le s ra rl).2
 obtain ⟨_, _, _, _, g5, g6, g7, _⟩ := found_get (show Bord s (rowFr s ra) kf from hf) (show Bord s (rowTo s ra rl) kt from ht) hft i p2 hi
 have hT : nextI (s.extract p2.a (p2.a + p2.size)) = (s.extract p2.a (p2.a + p2.size)).size := by
  have hm : (p2.a, p2.size, p2.level) ∈ (inPs s (rowFr s ra) (rowTo s ra rl)).map (fun q => (q.1, q.2.size, 0)) := by
   rw [← findF_map (inPs s (rowFr s ra) (rowTo s ra rl)) 0]
   exact List.mem_map_of_mem (f := fun p : Pc => (p.a, p.size, p.level)) hp2
  obtain ⟨q, hq, eq⟩ := List.mem_map.1 hm
  simp only [Prod.mk.injEq] at eq
  have h1 := mem_inPs hq
  rw [eq.1, eq.2.1] at h1
  rw [← h1]
  exact piece_one s s.size 0 (Nat.zero_le _) q (List.mem_filter.1 hq).1
 show nextI (becomeI (s.extract p1.a (p1.a + p1.size)) (((madeI s join (rowFr s ra) (rowTo s ra rl)).drop p1.c0).take (p1.c1 - p1.c0)) (decide (p1.level % 2 = 1))) = (becomeI (s.extract p1.a (p1.a + p1.size)) (((madeI s join (rowFr s ra) (rowTo s ra rl)).drop p1.c0).take (p1.c1 - p1.c0)) (decide (p1.level % 2 = 1))).size
 rw [← ea, ← es, ← e0, ← e1]
 have hml := madeI_len s join (rowFr s ra) (rowTo s ra rl)
 have hol : (((madeI s join (rowFr s ra) (rowTo s ra rl)).drop p2.c0).take (p2.c1 - p2.c0)).length = p2.c1 - p2.c0 := by rw [List.length_take, List.length_drop]; omega
 have hrl : (runesI (s.extract p2.a (p2.a + p2.size))).length = p2.c1 - p2.c0 := by rw [← g7, List.length_take, List.length_drop]; omega
 refine become_one hT _ (alike_of _ _ (by rw [hrl, hol]) (fun j hj => ?_)) (fun x hx => ?_)
 ·rw [← g7, ith_cut _ _ _ _ (by omega), ith_cut _ _ _ _ (by omega)]
  exact (made_same s join _ _ _ (by omega)).1
 ·obtain ⟨j, hj, rfl⟩ := List.mem_iff_getElem.1 hx
  have h1 := ith_get hj
  rw [List.getElem?_eq_getElem hj] at h1
  rw [Option.some.inj h1, ith_cut _ _ _ _ (by omega)]
  exact (made_same s join _ _ _ (by omega)).2
theorem lay_good (s : ByteArray) (tab want : Int) (wideA join raw : Bool) (ra rl rw : Int) : ∀ p ∈ layL s tab want wideA join raw ra rl rw, GoodP p := fun p hp hw => by
 obtain ⟨q, hq, e⟩ := mem_map_eq (edgeF_map (fun p : Pc => (p.became, p.shown, p.wide)) (fun _ _ _ => rfl) (laySeen s want join raw ra rl) 0 (lay3 s tab want wideA join raw ra rl rw).1) hp
 simp only [Prod.mk.injEq] at e
 obtain ⟨eb, es, ew⟩ := e
 have key : GoodT q.became (q.shown, q.wide) := by
  obtain ⟨j, hj, e⟩ := List.mem_iff_getElem.1 hq
  unfold lay3 at hj e
  have hj2 := hj
  rw [layF_len] at hj2
  obtain ⟨p0, hp0⟩ : ∃ p0, (lay2 s want join raw ra rl)[j]? = some p0 := ⟨_, List.getElem?_eq_getElem hj2⟩
  obtain ⟨q', hq', hl⟩ := layF_get rw tab wideA raw _ 0 0 (tailF s (lay2 s want join raw ra rl) (lay2 s want join raw ra rl).length) j p0 hp0
  rw [List.getElem?_eq_getElem hj, e] at hq'
  have := Option.some.inj hq'
  subst this
  rcases hl with rfl | ⟨x, rfl⟩
  ·intro h
   have := lay2_wide s want join raw ra rl q (List.mem_of_getElem? hp0)
   dsimp only at h
   omega
  ·exact text_good p0.became (lay2_one s want join raw ra rl p0 (List.mem_of_getElem? hp0)) x tab wideA raw
 rw [eb, es, ew] at key
 obtain ⟨h1, h2⟩ := key hw
 refine ⟨h1, ?_⟩
 rcases h2 with h | h | h
 ·left; unfold wholeB; rw [decide_eq_true h]; rfl
 ·left; unfold wholeB; rw [h]; simp
 ·exact .inr h
end
end Go.Proofs.YtlbclfmbejjneaaGreatDoor
