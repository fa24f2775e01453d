/- Part 46 of the proof (merged by a program out of the texts TileS, LevY, LawRT): lemmas of no further condition than each states. -/
import Derived.Test.YtlbclfmbejjneaaGreatDoorK45
namespace Go.Proofs.YtlbclfmbejjneaaGreatDoor
set_option linter.unusedVariables false
set_option linter.unusedSimpArgs false
section
theorem cells_tile (s : ByteArray) (used : List Nat) (prev : Option Ce) (rest : List Ce) (p : Pc) (hw : 0 < p.wide) (h2 : wholeB p = false ∨ (0 < p.shown.size ∧ p.wide ≤ 2)) (hc : clAt s (p.a : Int) = (p.a, p.a + p.size)) (hl : 1 ≤ p.size) (hs : p.a + p.size ≤ s.size)
 (hpv : ∀ y, prev = some y → y.a ≠ p.a) (hu : p.a ∉ used) (hr : ∀ z : Ce, z.a = p.a → TileL s (p.a :: used) (some z) rest) : TileL s used prev (cellsP p ++ rest) := by
 obtain ⟨k, hk⟩ : ∃ k, p.wide.toNat = k + 1 := ⟨p.wide.toNat - 1, by omega⟩
 unfold cellsP
 rw [hk, List.range_succ_eq_map, List.map_cons, List.map_map]
 cases hb : wholeB p with
 | true =>
   obtain ⟨h3, h4⟩ := h2.resolve_left (by rw [hb]; decide)
   refine tile_block s used prev rest _ _ (by rw [if_pos rfl]; exact hl) (by rw [if_pos rfl]; exact hs) (by rw [if_pos rfl]; rfl) (by rw [if_pos rfl, if_pos rfl]; show p.shown.size ≠ 0; omega) (by rw [if_pos rfl]; exact hpv) (by rw [if_pos rfl]; exact hu) (by rw [if_pos rfl]; exact hc) (fun z hz => ?_) (fun i z hz hzp => ?_) (fun z hz => ?_)
   ·obtain ⟨j, hj, rfl⟩ := List.mem_map.1 hz
    simp only [Function.comp, if_true]
    refine ⟨trivial, trivial, trivial, fun h => ?_, fun h => ?_⟩
    ·exact absurd h (by simp; omega)
    ·exact absurd (by rw [if_neg (by omega)]; rfl) h
   ·rw [List.getElem?_cons_succ, List.getElem?_map] at hz
    have hi : i < k := by
     rcases Nat.lt_or_ge i k with h | h
     ·exact h
     ·rw [List.getElem?_eq_none (by simpa using h)] at hz; cases hz
    have : i = 0 := by omega
    subst this
    rw [List.getElem?_range hi] at hz
    have := Option.some.inj hz
    subst this
    simp only [Function.comp, if_true]
    exact ⟨by simp, _, rfl, rfl⟩
   ·rw [if_pos rfl] at hz ⊢
    exact hr z hz
 | false =>
   refine tile_block s used prev rest _ _ (by rw [if_neg (by decide)]; exact hl) (by rw [if_neg (by decide)]; exact hs) (by rw [if_neg (by decide)]) (by rw [if_neg (by decide)]; show (1 : Nat) ≠ 0; omega) (by rw [if_neg (by decide)]; exact hpv) (by rw [if_neg (by decide)]; exact hu) (by rw [if_neg (by decide)]; exact hc) (fun z hz => ?_) (fun i z hz hzp => ?_) (fun z hz => ?_)
   ·obtain ⟨j, hj, rfl⟩ := List.mem_map.1 hz
    simp only [Function.comp, Bool.false_eq_true, if_false]
    exact ⟨trivial, trivial, trivial, fun _ => by show (1 : Nat) ≠ 0; omega, fun _ => trivial⟩
   ·exfalso
    have hm := List.mem_of_getElem? (by rw [List.getElem?_cons_succ] at hz; exact hz)
    obtain ⟨j, hj, rfl⟩ := List.mem_map.1 hm
    simp only [Function.comp, Bool.false_eq_true, if_false] at hzp
    exact hzp rfl
   ·rw [if_neg (by decide)] at hz ⊢
    exact hr z hz
theorem cellsF_tile (s : ByteArray) (L : List Pc) (hc : ∀ p ∈ L, clAt s (p.a : Int) = (p.a, p.a + p.size) ∧ 1 ≤ p.size ∧ p.a + p.size ≤ s.size) (h2 : ∀ p ∈ L, 0 < p.wide → wholeB p = false ∨ (0 < p.shown.size ∧ p.wide ≤ 2))
 (hd : ∀ i j : Nat, i < L.length → j < L.length → (L.getD i default).a = (L.getD j default).a → i = j) :
 ∀ (o : List Int) (used : List Nat) (prev : Option Ce), o.Nodup → (∀ i ∈ o, 0 ≤ i ∧ i.toNat < L.length) → (∀ i ∈ o, (L.getD i.toNat default).a ∉ used) → (∀ y, prev = some y → y.a ∈ used) → TileL s used prev (cellsF L o)
 | [], _, _, _, _, _, _ => trivial
 | i :: t, used, prev, hn, hi, hu, hp => by
   obtain ⟨n1, n2⟩ := List.nodup_cons.1 hn
   obtain ⟨i1, i2⟩ := hi i (List.mem_cons_self ..)
   have hm : L.getD i.toNat default ∈ L := by rw [List.getD_eq_getElem?_getD, List.getElem?_eq_getElem i2]; exact List.getElem_mem i2
   have hui := hu i (List.mem_cons_self ..)
   rw [cellsF]
   by_cases hw : 0 < (L.getD i.toNat default).wide
   ·rw [if_pos hw]
    obtain ⟨c1, c2, c3⟩ := hc _ hm
    refine cells_tile s used prev _ _ hw (h2 _ hm hw) c1 c2 c3 (fun y hy e => hui (e ▸ hp y hy)) hui (fun z hz => ?_)
    refine cellsF_tile s L hc h2 hd t _ _ n2 (fun j hj => hi j (List.mem_cons_of_mem _ hj)) (fun j hj hmem => ?_) (fun y hy => by rw [← Option.some.inj hy, hz]; exact List.mem_cons_self ..)
    rcases List.mem_cons.1 hmem with h | h
    ·obtain ⟨j1, j2⟩ := hi j (List.mem_cons_of_mem _ hj)
     have := hd _ _ j2 i2 h
     have : j = i := by omega
     exact n1 (this ▸ hj)
    ·exact hu j (List.mem_cons_of_mem _ hj) h
   ·rw [if_neg hw, List.nil_append]
    exact cellsF_tile s L hc h2 hd t used prev n2 (fun j hj => hi j (List.mem_cons_of_mem _ hj)) (fun j hj => hu j (List.mem_cons_of_mem _ hj)) hp
theorem order_nodup (ls : List Nat) : (orderI ls).Nodup := by
 unfold orderI listOf
 rw [List.nodup_iff_pairwise_ne, List.pairwise_map]
 refine (List.nodup_iff_pairwise_ne.1 List.nodup_range).imp (fun {a b} hab he => hab ?_)
 have he : oF (lvF ls) ls.length (0 + 1) (topF ls ls.length) a = oF (lvF ls) ls.length (0 + 1) (topF ls ls.length) b := by
  have : ((oF (lvF ls) ls.length (0 + 1) (topF ls ls.length) a : Nat) : Int) = (oF (lvF ls) ls.length (0 + 1) (topF ls ls.length) b : Nat) := he
  exact_mod_cast this
 rw [← tF_oF (lvF ls) ls.length (topF ls ls.length) (0 + 1) a, he, tF_oF]
theorem order_mem (ls : List Nat) : ∀ i ∈ orderI ls, 0 ≤ i ∧ i.toNat < ls.length := fun i hi => by
 obtain ⟨k, hk⟩ := List.mem_iff_getElem?.1 hi
 have hkl := (List.getElem?_eq_some_iff.1 hk).1
 rw [order_len] at hkl
 obtain ⟨j, hj, e⟩ := seen_get ls ls.length k rfl hkl
 rw [e] at hk
 have := Option.some.inj hk
 omega
theorem row_tiles (s : ByteArray) (tab want : Int) (wideA join raw : Bool) (ra rl rw : Int) : TileL s [] none (cellsI (layI s tab want wideA join raw ra rl rw)) := by
 have hpw := List.pairwise_iff_getElem.1 (layL_pw s tab want wideA join raw ra rl rw)
 have hsz : ∀ (i : Nat) (h : i < (layL s tab want wideA join raw ra rl rw).length), 1 ≤ ((layL s tab want wideA join raw ra rl rw)[i]).size := fun i h => (lay_clAt s tab want wideA join raw ra rl rw _ (List.getElem_mem h)).2.1
 refine cellsF_tile s (layL s tab want wideA join raw ra rl rw) (lay_clAt s tab want wideA join raw ra rl rw) (lay_two s tab want wideA join raw ra rl rw) (fun i j hi hj e => ?_)
  (laySeen s want join raw ra rl) [] none (order_nodup _) (fun i hi => ?_) (fun _ _ h => by cases h) (fun _ h => by cases h)
 ·rw [List.getD_eq_getElem?_getD, List.getD_eq_getElem?_getD, List.getElem?_eq_getElem hi, List.getElem?_eq_getElem hj] at e
  simp only [Option.getD_some] at e
  have h1 := hsz i hi
  have h2 := hsz j hj
  rcases Nat.lt_trichotomy i j with h | h | h
  ·have := hpw i j hi hj h; omega
  ·exact h
  ·have := hpw j i hj hi h; omega
 ·have := order_mem _ i hi
  rw [List.length_map] at this
  rw [layL_len]
  exact this
end
section
theorem set_getD (l : List Nat) (i j v : Nat) : (l.set i v).getD j 0 = v ∨ (l.set i v).getD j 0 = l.getD j 0 := by
 rw [List.getD_eq_getElem?_getD, List.getD_eq_getElem?_getD, List.getElem?_set]
 by_cases h : i = j
 ·subst h
  by_cases h2 : i < l.length
  ·left; simp [h2]
  ·right; rw [if_pos rfl, if_neg h2, List.getElem?_eq_none (by omega)]
 ·right; rw [if_neg h]
theorem set_same (l : List Nat) (i v : Nat) : (l.set i v).getD i 0 = v ∨ (l.set i v).getD i 0 = 0 := by
 rw [List.getD_eq_getElem?_getD, List.getElem?_set, if_pos rfl]
 by_cases h2 : i < l.length
 ·left; simp [h2]
 ·right; rw [if_neg h2]; rfl
theorem hangF_le (cs : List Int) (base fr : Nat) (hb : base ≤ 126) : ∀ (i : Nat) (h : Bool) (out : List Nat), (∀ j, i ≤ j → out.getD j 0 ≤ 126) → ∀ j, (hangF cs base fr i h out).getD j 0 ≤ 126
 | 0, h, out, ho, j => ho j (Nat.zero_le _)
 | i + 1, h, out, ho, j => by
   rw [hangF]
   refine hangF_le cs base fr hb i _ _ (fun q hq => ?_) j
   have key : ∀ l : List Nat, (∀ q, i + 1 ≤ q → l.getD q 0 ≤ 126) → ∀ v, v ≤ 126 → ∀ q, i ≤ q → (l.set i v).getD q 0 ≤ 126 := fun l hl v hv q hq => by
    by_cases e : i = q
    ·subst e
     rcases set_same l i v with h | h <;> omega
    ·rcases set_getD l i q v with h | h
     ·omega
     ·have := hl q (by omega); omega
   have h1 := key out ho (min (out.getD i 0) 126) (by omega)
   split
   ·exact key _ (fun q hq => h1 q (by omega)) base hb q hq
   ·exact h1 q hq
theorem row_le {cs : List Int} {ls : List Nat} {base : Nat} {fr tt : Int} {out : List Nat} (h : rowI cs ls base fr tt = some out) : ∀ j, out.getD j 0 ≤ 126 := by
 unfold rowI at h
 dsimp only at h
 split at h
 ·cases h
 ·have := Option.some.inj h
  subst this
  refine hangF_le _ _ _ (by omega) _ _ _ (fun j hj => ?_)
  rw [List.getD_eq_getElem?_getD, List.getElem?_eq_none (by rw [List.length_take]; omega)]
  exact Nat.zero_le _
theorem own_le (s : ByteArray) (want : Int) (fr m : Nat) : ∀ j, (ownLv s want fr m).getD j 0 ≤ 126 := fun j => by
 unfold ownLv
 cases h : rowI (runesI s) (visualI (runesI s) want).1 (visualI (runesI s) want).2.toNat (runesI (s.extract 0 fr)).length ((runesI (s.extract 0 fr)).length + m : Nat) with
 | none => simp
 | some out => exact row_le h j
theorem found_lv0 : ∀ (l : List (Nat × ByteArray)) (n : Nat), ∀ p ∈ findF l n, p.level = 0
 | [], n, p, hp => by cases hp
 | q :: t, n, p, hp => by
   rw [findF] at hp
   rcases List.mem_cons.1 hp with rfl | hp
   ·rfl
   ·exact found_lv0 t _ p hp
theorem lay2_lv (s : ByteArray) (want : Int) (join raw : Bool) (ra rl : Int) : ∀ p ∈ lay2 s want join raw ra rl, p.level < 256 := fun p hp => by
 unfold lay2 at hp
 obtain ⟨q, hq, rfl⟩ := List.mem_map.1 hp
 show q.level < 256
 unfold levelsI at hq
 split at hq
 ·have := found_lv0 _ _ q hq
  omega
 ·obtain ⟨r, hr, rfl⟩ := List.mem_map.1 hq
  obtain ⟨o, ho⟩ : ∃ o, ownLv s want (rowFr s ra) (lastC (foundI s (rowFr s ra) (rowTo s ra rl))) = o := ⟨_, rfl⟩
  have h1 := own_le s want (rowFr s ra) (lastC (foundI s (rowFr s ra) (rowTo s ra rl))) r.c0
  rw [ho] at h1 ⊢
  show o.getD r.c0 0 < 256
  omega
end
section
open Go.RowKit Go.Proofs Go.Shelf Go.Maps
attribute [local go_sem] Oper.semAt_some
def SeenM (W : World) (M : Nat) (used : List Nat) : Prop := ∃ (D : DataW Unit) (goes : List (Nat × Nat)), W.ownsMap Tryz.prog 3 (plainElem Tryz.prog 3) M used.length D ∧ MapIs D goes ∧ goes.map (·.1) = used ∧ Maps.size D = used.length
theorem SeenM.lt {W : World} {M : Nat} {used : List Nat} (h : SeenM W M used) : M < W.heap.size := by
 obtain ⟨D, goes, h1, _⟩ := h
 exact h1.lt
theorem SeenM.below {W W' : World} {M B : Nat} {used : List Nat} (h : SeenM W M used) (hb : Below B W W') (hM : M < B) : SeenM W' M used := by
 obtain ⟨D, goes, ⟨es, clock, hbk, F, hs, hD⟩, h2⟩ := h
 exact ⟨D, goes, ⟨es, clock, (hb.block M hM).trans hbk, F, hs, hD⟩, h2⟩
theorem gfind_new : ∀ (goes : List (Nat × Nat)) (j : Nat), j ∉ goes.map (·.1) → gfind goes j = none
 | [], j, _ => rfl
 | (a, b) :: t, j, h => by
   rw [List.map_cons, List.mem_cons, not_or] at h
   rw [gfind_cons, if_neg (fun e => h.1 e.symm)]
   exact gfind_new t j h.2
theorem seen_none {D : DataW Unit} {goes : List (Nat × Nat)} {used : List Nat} (h2 : MapIs D goes) (h3 : goes.map (·.1) = used) {j : Nat} (hj : j ∉ used) : Maps.has D (.int .i64 j) = false := h2.none_ j (gfind_new goes j (h3 ▸ hj))
theorem seen_put {W W' : World} {M : Nat} {D : DataW Unit} {goes : List (Nat × Nat)} {used : List Nat} {j k : Nat} (h1 : W.ownsMap Tryz.prog 3 (plainElem Tryz.prog 3) M used.length D) (h2 : MapIs D goes) (h3 : goes.map (·.1) = used) (h4 : Maps.size D = used.length) (hj : j ∉ used)
 (h5 : W'.ownsMap Tryz.prog 3 (plainElem Tryz.prog 3) M (used.length + 1) (D.put (.int .i64 j) (.lit (.int .i64 k)))) : SeenM W' M (j :: used) := by
 refine ⟨_, (j, k) :: goes, h5, h2.put j k, by rw [List.map_cons, h3], ?_⟩
 rw [Maps.size_put (h1.tidy key_law), seen_none h2 h3 hj, h4]
 rfl
def pvF (cs : List Ce) : Nat → Option Ce
 | 0 => none
 | k + 1 => cs[k]?
theorem ce_all {w : World} {base n c : Nat} {a : Option Addr} {l : List Ce} (hl : l.length = n) (hO : OwnS ceE 32 w base (.slice a n c) l) (i : Nat) (x : Ce) (hx : l[i]? = some x) :
 ∃ G, a = some ⟨G, 0, none⟩ ∧ w.cell? ⟨G, i * 6, none⟩ = some (.string x.text) ∧ w.cell? ⟨G, i * 6 + 1, none⟩ = some (.int .i8 x.part) ∧ w.cell? ⟨G, i * 6 + 2, none⟩ = some (.int .i64 x.a) ∧ w.cell? ⟨G, i * 6 + 3, none⟩ = some (.int .i64 x.len) ∧ w.cell? ⟨G, i * 6 + 4, none⟩ = some (.bool x.right) ∧ w.cell? ⟨G, i * 6 + 5, none⟩ = some (.int .u16 0) := by
 subst hl
 obtain ⟨G, eG, _, _, hc, _⟩ := hO.at i x hx
 exact ⟨G, eG, hc 0 _ rfl, hc 1 _ rfl, hc 2 _ rfl, hc 3 _ rfl, hc 4 _ rfl, hc 5 _ rfl⟩
structure RtS (w3 : World) (b0 M R : Nat) (used : List Nat) (x : Ce) (v : Value) (cs : List Ce) (W : World) : Prop where
 box : W.heap[R]? = some (.cells #[.string x.text, .int .i8 x.part, .int .i64 x.a, .int .i64 x.len, .bool x.right, .int .u16 0] 32 (0, 0))
 bel : Below w3.heap.size w3 W
 seen : SeenM W M used
 own : OwnS ceE 32 W b0 v cs
theorem RtS.lt {w3 : World} {b0 M R : Nat} {used : List Nat} {x : Ce} {v : Value} {cs : List Ce} {W : World} (h : RtS w3 b0 M R used x v cs W) : R < W.heap.size := (Array.getElem?_eq_some_iff.1 h.box).1
theorem RtS.below {w3 : World} {b0 M R : Nat} {used : List Nat} {x : Ce} {v : Value} {cs : List Ce} {W W' : World} (h : RtS w3 b0 M R used x v cs W) (hb : Below W.heap.size W W') : RtS w3 b0 M R used x v cs W' :=
 ⟨(hb.block R h.lt).trans h.box, h.bel.trans (hb.mono h.bel.size), h.seen.below hb h.seen.lt, h.own.keep hb⟩
theorem RtS.cells {w3 : World} {b0 M R : Nat} {used : List Nat} {x : Ce} {v : Value} {cs : List Ce} {W : World} (h : RtS w3 b0 M R used x v cs W) :
 W.cell? ⟨R, 0, none⟩ = some (.string x.text) ∧ W.cell? ⟨R, 1, none⟩ = some (.int .i8 x.part) ∧ W.cell? ⟨R, 2, none⟩ = some (.int .i64 x.a) ∧ W.cell? ⟨R, 3, none⟩ = some (.int .i64 x.len) ∧ W.cell? ⟨R, 4, none⟩ = some (.bool x.right) ∧ W.cell? ⟨R, 5, none⟩ = some (.int .u16 0) := by
 have := h.box
 refine ⟨?_, ?_, ?_, ?_, ?_, ?_⟩ <;> simp [World.cell?, this]
theorem cellsF_max (L : List Pc) (h : ∀ p ∈ L, 0 ≤ p.wide ∧ p.wide ≤ 19) : ∀ o : List Int, (cellsF L o).length ≤ 19 * o.length
 | [] => Nat.le_refl _
 | i :: t => by
   have ih := cellsF_max L h t
   rw [cellsF, List.length_append, List.length_cons]
   have h1 : (if 0 < (L.getD i.toNat default).wide then cellsP (L.getD i.toNat default) else []).length ≤ 19 := by
    split
    ·rw [cellsP_len, List.getD_eq_getElem?_getD]
     by_cases hi : i.toNat < L.length
     ·rw [List.getElem?_eq_getElem hi]
      have := h _ (List.getElem_mem hi)
      simp only [Option.getD_some]
      omega
     ·rw [List.getElem?_eq_none (by omega)]
      decide
    ·exact Nat.zero_le _
   omega
theorem cells_max (s : ByteArray) (tab want : Int) (wideA join raw : Bool) (ra rl rw : Int) (hs : s.size ≤ 2097152) : (cellsI (layI s tab want wideA join raw ra rl rw)).length ≤ 39845888 := by
 have h1 := cellsF_max (layL s tab want wideA join raw ra rl rw) (layL_bd s tab want wideA join raw ra rl rw) (laySeen s want join raw ra rl)
 have h2 : (laySeen s want join raw ra rl).length = (layL s tab want wideA join raw ra rl rw).length := by unfold laySeen; rw [order_len, List.length_map, layL_len]
 have h3 := layL_max s tab want wideA join raw ra rl rw hs
 have h4 : (cellsI (layI s tab want wideA join raw ra rl rw)).length = (cellsF (layL s tab want wideA join raw ra rl rw) (laySeen s want join raw ra rl)).length := rfl
 omega
set_option maxRecDepth 100000 in
set_option maxHeartbeats 4000000 in
theorem LawRT_any (s : ByteArray) (hs : s.size ≤ 2097152) (ra rl lev rwd fin tab want : Int) (wideA join raw : Bool) (w : World) (hT : T8 w) (hD : DB w) :
 Calls Tryz.prog 3 #[.string s, rowA5 ra rl lev rwd fin, lookV tab want wideA join raw] w fun e w' => e = .returned (.bool true) ∧ Below w.heap.size w w' := by
 have htl := row_tiles s tab want wideA join raw ra rl rwd
 have hnn := layL_bd s tab want wideA join raw ra rl rwd
 have HC := Lib.hid (fun (W : World) (h : Below w.heap.size w W) => Cells_any s hs ra rl lev rwd fin tab want wideA join raw W (hT.below rfl h) (hD.below h) (lay2_lv s want join raw ra rl) (lay_good s tab want wideA join raw ra rl rwd))
 have HAT := Lib.hid (fun (x : Int) (W : World) (h : Below w.heap.size w W) => cAt_any s hs x W (hT.below rfl h))
 have HAL := Lib.hid (fun (W : World) (h : Below w.heap.size w W) => alive_any W (hT.below rfl h) (hD.below h))
 have hn2 := cells_max s tab want wideA join raw ra rl rwd hs
 obtain ⟨cs, hcs⟩ : ∃ cs, cellsI (layI s tab want wideA join raw ra rl rwd) = cs := ⟨_, rfl⟩
 rw [hcs] at htl HC hn2
 obtain ⟨n, hn⟩ : ∃ n, cs.length = n := ⟨_, rfl⟩
 rw [hn] at hn2 HC
 have HTL := Lib.hid htl
 unfold rowA5 at HC
 have hmm := @run_makeMap Tryz.prog
 clear htl hnn hT hD hcs
 go_enter Tryz.func3, Tryz.ntmps3
 unfold rowA5
 go_upto_region 1 with (fail)
 obtain ⟨h0, h1, hb1, hs1⟩ := two_boxes w (.cells #[.int .i64 ra, .int .i64 rl, .int .u8 lev, .int .i64 rwd, .int .i8 fin] 24) (.cells #[.int .i64 tab, .bool wideA, .int .i8 want, .bool join, .bool raw] 26)
 generalize (w.alloc (.cells #[.int .i64 ra, .int .i64 rl, .int .u8 lev, .int .i64 rwd, .int .i8 fin] 24)).alloc (.cells #[.int .i64 tab, .bool wideA, .int .i8 want, .bool join, .bool raw] 26) = W2 at h0 h1 hb1 hs1 ⊢
 obtain ⟨B, hB⟩ : ∃ B, w.heap.size = B := ⟨_, rfl⟩
 have HB2 := Lib.hid hb1
 rw [hB] at h0 h1 hs1 ⊢
 have HS2 := Lib.hid hs1
 have b0 : W2.cell? ⟨B, 0, none⟩ = some (.int .i64 ra) := by simp [World.cell?, h0]
 have b1 : W2.cell? ⟨B, 1, none⟩ = some (.int .i64 rl) := by simp [World.cell?, h0]
 have b2 : W2.cell? ⟨B, 2, none⟩ = some (.int .u8 lev) := by simp [World.cell?, h0]
 have b3 : W2.cell? ⟨B, 3, none⟩ = some (.int .i64 rwd) := by simp [World.cell?, h0]
 have b4 : W2.cell? ⟨B, 4, none⟩ = some (.int .i8 fin) := by simp [World.cell?, h0]
 have l0 : W2.cell? ⟨B + 1, 0, none⟩ = some (.int .i64 tab) := by simp [World.cell?, h1]
 have l1 : W2.cell? ⟨B + 1, 1, none⟩ = some (.bool wideA) := by simp [World.cell?, h1]
 have l2 : W2.cell? ⟨B + 1, 2, none⟩ = some (.int .i8 want) := by simp [World.cell?, h1]
 have l3 : W2.cell? ⟨B + 1, 3, none⟩ = some (.bool join) := by simp [World.cell?, h1]
 have l4 : W2.cell? ⟨B + 1, 4, none⟩ = some (.bool raw) := by simp [World.cell?, h1]
 have HCC := Lib.hid (HC.out W2 hb1)
 clear h0 h1 hb1 hs1
 go_upto_region 2 with (go_at_call 12; refine HCC.out.mono ?_; rintro e w3 ⟨a, c, rfl, hO3, hb3⟩)
 have hb3' : Below w.heap.size w w3 := HB2.out.trans (hb3.mono HB2.out.size)
 have HB3 := Lib.hid hb3'
 have HO3 := Lib.hid hO3
 clear b0 b1 b2 b3 b4 l0 l1 l2 l3 l4 hb3 hO3 HCC HC hb3'
 obtain ⟨M, hM⟩ : ∃ M, w3.heap.size = M := ⟨_, rfl⟩
 have hown0 := World.ownsMap_made w3 Tryz.prog 3 (plainElem (H := Unit) Tryz.prog 3)
 have hbm : Below w3.heap.size w3 (w3.alloc (.map #[] 0)) := (Below.refl _ _).alloc (Nat.le_refl _) _
 rw [hM] at hown0
 have hsn : SeenM (w3.alloc (.map #[] 0)) M [] := ⟨_, [], hown0, MapIs.nil, rfl, rfl⟩
 have HSN := Lib.hid hsn
 have HBM := Lib.hid hbm
 clear hown0 hbm hsn
 go_upto_block 0 with (fail)
 generalize w3.alloc (.map #[] 0) = W4 at HSN HBM ⊢
 clear hmm
 go_wp2_with (fail)
 go_loopw [8, 10] (fun u8 u10 wx => ∃ (k : Nat) (used : List Nat), k ≤ n ∧ u10 = .int .i64 k ∧ u8 = .int .i64 used.length ∧ used.length ≤ k ∧ TileL s used (pvF cs k) (cs.drop k) ∧ SeenM wx M used ∧ Below w3.heap.size w3 wx) (fun _ u10 _ => n - (intOf u10).toNat)
 case atStart => exact ⟨0, [], Nat.zero_le _, rfl, rfl, Nat.le_refl _, by rw [List.drop_zero]; exact HTL.out, HSN.out, HBM.out⟩
 case round =>
  obtain ⟨k, used, hk, rfl, rfl, huk, htl, hsn, hb⟩ := hrel
  have HBr := Lib.hid hb
  have HOr := Lib.hid (HO3.out.keep hb)
  have HSr := Lib.hid hsn
  clear hb hsn HSN HBM
  by_cases hlt : k < n
  ·obtain ⟨x, hx⟩ : ∃ x, cs[k]? = some x := ⟨_, List.getElem?_eq_getElem (by omega)⟩
   obtain ⟨G, eG, x0, x1, x2, x3, x4, x5⟩ := ce_all hn HOr.out k x hx
   subst eG
   have hds : cs.drop k = x :: cs.drop (k + 1) := dropR_cons hx
   rw [hds, TileL] at htl
   obtain ⟨⟨t1, t2, t3, t4, t5⟩, htl⟩ := htl
   have HTN : Hid (TileL s (if sameA (pvF cs k) x = true then used else x.a :: used) (pvF cs (k + 1)) (cs.drop (k + 1))) := Lib.hid (by rw [pvF, hx]; exact htl)
   have T5 := Lib.hid t5
   have T3 := Lib.hid t3
   have T4 := Lib.hid t4
   have HX := Lib.hid hx
   have hkn : (k : Int) < (n : Int) := by omega
   have hwk : IntKind.i64.wrap ((k : Int) + 1) = (k : Int) + 1 := by rw [IntKind.wrap_i64]; omega
   clear htl hds hx t5 t3 t4
   go_upto_region 8 with (fail)
   have hb5 : Below wr.heap.size wr (wr.alloc (.cells #[.string x.text, .int .i8 x.part, .int .i64 x.a, .int .i64 x.len, .bool x.right, .int .u16 0] 32)) := (Below.refl _ _).alloc (Nat.le_refl _) _
   have hy := World.alloc_heap_new wr (.cells #[.string x.text, .int .i8 x.part, .int .i64 x.a, .int .i64 x.len, .bool x.right, .int .u16 0] 32)
   generalize wr.alloc (.cells #[.string x.text, .int .i8 x.part, .int .i64 x.a, .int .i64 x.len, .bool x.right, .int .u16 0] 32) = W5 at hb5 hy ⊢
   obtain ⟨R, hR⟩ : ∃ R, wr.heap.size = R := ⟨_, rfl⟩
   rw [hR] at hy ⊢
   have HS5 : Hid (RtS w3 W2.heap.size M R used x (.slice (some ⟨G, 0, none⟩) n c) cs W5) := Lib.hid ⟨hy, HBr.out.trans (hb5.mono HBr.out.size), HSr.out.below hb5 HSr.out.lt, HO3.out.keep (HBr.out.trans (hb5.mono HBr.out.size))⟩
   have hmr := HSr.out.lt
   have hMR : M < R := by omega
   clear x0 x1 x2 x3 x4 x5 hy hb5 HBr HSr HOr hR hmr
   obtain ⟨y0, y1, y2, y3, y4, y5⟩ := HS5.out.cells
   obtain ⟨e, he⟩ : ∃ e, x.a + x.len = e := ⟨_, rfl⟩
   have hez : e ≤ 2097152 := by omega
   have hws : IntKind.i64.wrap ((x.a : Int) + (x.len : Int)) = (e : Int) := by rw [IntKind.wrap_i64]; omega
   have d1 : decide ((x.a : Int) < 0) = false := decide_eq_false (by omega)
   have d2 : decide ((x.len : Int) < 1) = false := decide_eq_false (by omega)
   have d3 : decide ((s.size : Int) < (e : Int)) = false := decide_eq_false (by omega)
   have d3' : decide (s.size < e) = false := decide_eq_false (by omega)
   go_cut [96] (fun t wx => t = .bool false ∧ RtS w3 W2.heap.size M R used x (.slice (some ⟨G, 0, none⟩) n c) cs wx)
   case first =>
    by_cases hp : x.part = 0
    ·have htx := T3.out.1 hp
     have hem := ne_isEmpty x.text htx
     have hem2 : (x.text.toList == (⟨#[]⟩ : ByteArray).toList) = false := by rw [bytes_beq]; exact decide_eq_false (fun h => htx (by rw [h]; rfl))
     rw [hp] at y1
     clear hp htx T3 T4 T5 HTN HX
     simp only [List.append]
     go_quiet (fail)
     go_wp2_with (fail)
     go_meet
     exact ⟨rfl, HS5.out.below (bl_drewN (Below.refl _ _) _)⟩
    ·obtain ⟨hp1, y, hpy, hy0, hya⟩ := T4.out hp
     have htx : x.text = ⟨#[]⟩ := by
      have h0 : x.text.size = 0 := by
       by_cases h : x.text.size = 0
       ·exact h
       ·exact absurd (T3.out.2 h) hp
      exact ByteArray.ext (Array.eq_empty_of_size_eq_zero h0)
     cases k with
     | zero => cases hpy
     | succ k =>
       have hpy : cs[k]? = some y := hpy
       obtain ⟨G', eG, z0, z1, z2, z3, z4, z5⟩ := ce_all hn HS5.out.own k y hpy
       cases eG
       rw [htx] at y0
       rw [hp1] at y1
       rw [hy0] at z1
       rw [hya] at z2
       have hwj : IntKind.i64.wrap (((k + 1 : Nat) : Int) - 1) = (k : Int) := by rw [IntKind.wrap_i64]; omega
       have hwj' : IntKind.i64.wrap ((k : Int) + 1 - 1) = (k : Int) := by rw [IntKind.wrap_i64]; omega
       have hwj2 : IntKind.i64.wrap (k : Int) = (k : Int) := by rw [IntKind.wrap_i64]; omega
       have hg1 : (k : Int) + 1 < (n : Int) := by omega
       have hg2 : (k : Int) < (n : Int) := by omega
       have hg4 : (0 : Int) ≤ (k : Int) := by omega
       have hk0 : (((k + 1 : Nat) : Int) == 0) = false := by rw [beq_eq_false_iff_ne]; omega
       have hk0' : ((k : Int) + 1 == 0) = false := by rw [beq_eq_false_iff_ne]; omega
       clear hp htx hp1 hpy hy0 hya T3 T4 T5 HTN HX z0 z3 z4 z5
       simp only [List.append]
       go_quiet (fail)
       go_wp2_with (fail)
       go_meet
       exact ⟨rfl, HS5.out.below (bl_drewN (Below.refl _ _) _)⟩
   case rest =>
    obtain ⟨rfl, hS6⟩ := hcut
    have HS6 := Lib.hid hS6
    have HWS := Lib.hid hws
    have HE := Lib.hid he
    clear y0 y1 y2 y3 y4 y5 HS5 hws d1 d2 d3 d3' T3 T4
    obtain ⟨y0, y1, y2, y3, y4, y5⟩ := hS6.cells
    go_upto_region 10 with (fail)
    rcases T5.out with ⟨y, hpy, hya, hyl, hyr⟩ | ⟨hno, hnu, hcl⟩
    ·cases k with
     | zero => cases hpy
     | succ k =>
       have hpy : cs[k]? = some y := hpy
       obtain ⟨G', eG, z0, z1, z2, z3, z4, z5⟩ := ce_all hn hS6.own k y hpy
       cases eG
       rw [hya] at z2
       rw [hyl] at z3
       rw [hyr] at z4
       have hsm : sameA (pvF cs (k + 1)) x = true := by show sameA (cs[k]?) x = true; rw [hpy]; exact decide_eq_true hya
       have HTN2 : Hid (TileL s used (pvF cs (k + 1 + 1)) (cs.drop (k + 1 + 1))) := Lib.hid (by have h := HTN.out; rw [if_pos hsm] at h; exact h)
       have hwj : IntKind.i64.wrap (((k + 1 : Nat) : Int) - 1) = (k : Int) := by rw [IntKind.wrap_i64]; omega
       have hwj' : IntKind.i64.wrap ((k : Int) + 1 - 1) = (k : Int) := by rw [IntKind.wrap_i64]; omega
       have hwj2 : IntKind.i64.wrap (k : Int) = (k : Int) := by rw [IntKind.wrap_i64]; omega
       have hg1 : (k : Int) + 1 < (n : Int) := by omega
       have hg2 : (k : Int) < (n : Int) := by omega
       have hg4 : (0 : Int) ≤ (k : Int) := by omega
       have hd1 : decide ((0 : Int) < ((k + 1 : Nat) : Int)) = true := decide_eq_true (by omega)
       have hd1' : decide ((0 : Int) < (k : Int) + 1) = true := decide_eq_true (by omega)
       have hwk2 : IntKind.i64.wrap ((k : Int) + 1 + 1) = (k : Int) + 1 + 1 := by rw [IntKind.wrap_i64]; omega
       clear hpy hya hyl hyr hsm hS6 T5 HTN HX z0 z1 z5 y0 y1 y5
       go_quiet (fail)
       go_upto_region 11 with (fail)
       go_quiet (fail)
       go_wp2_with (fail)
       go_roundw
       case rel => exact ⟨k + 2, used, by omega, by go_num, rfl, by omega, HTN2.out, HS6.out.seen.below (bl_drewN (Below.refl _ _) _) HS6.out.seen.lt, bl_drewN HS6.out.bel _⟩
       case measure => simp [intOf]; omega
    ·have hsm : sameA (pvF cs k) x = false := by
      cases hpv : pvF cs k with
      | none => rfl
      | some y => exact decide_eq_false (hno y hpv)
     have HTN2 : Hid (TileL s (x.a :: used) (pvF cs (k + 1)) (cs.drop (k + 1))) := Lib.hid (by have h := HTN.out; rw [if_neg (by rw [hsm]; decide)] at h; exact h)
     have HNO := Lib.hid hno
     have HNU := Lib.hid hnu
     have HCL := Lib.hid hcl
     clear hno hnu hcl hsm T5 HTN
     go_cut [109] (fun t wx => t = .bool false ∧ RtS w3 W2.heap.size M R used x (.slice (some ⟨G, 0, none⟩) n c) cs wx)
     case first =>
      cases k with
      | zero =>
        have hd1 : decide ((0 : Int) < ((0 : Nat) : Int)) = false := by decide
        clear y0 y1 y2 y3 y4 y5 hS6
        go_quiet (fail)
        go_wp2_with (fail)
        go_meet
        exact ⟨rfl, HS6.out.below (bl_drewN (Below.refl _ _) _)⟩
      | succ k =>
        obtain ⟨y, hpy⟩ : ∃ y, cs[k]? = some y := ⟨_, List.getElem?_eq_getElem (by omega)⟩
        obtain ⟨G', eG, z0, z1, z2, z3, z4, z5⟩ := ce_all hn hS6.own k y hpy
        cases eG
        have hyx := HNO.out y hpy
        have hne : ((y.a : Int) == (x.a : Int)) = false := by rw [beq_eq_false_iff_ne]; omega
        have hwj : IntKind.i64.wrap (((k + 1 : Nat) : Int) - 1) = (k : Int) := by rw [IntKind.wrap_i64]; omega
        have hwj' : IntKind.i64.wrap ((k : Int) + 1 - 1) = (k : Int) := by rw [IntKind.wrap_i64]; omega
        have hwj2 : IntKind.i64.wrap (k : Int) = (k : Int) := by rw [IntKind.wrap_i64]; omega
        have hg1 : (k : Int) + 1 < (n : Int) := by omega
        have hg2 : (k : Int) < (n : Int) := by omega
        have hg4 : (0 : Int) ≤ (k : Int) := by omega
        have hd1 : decide ((0 : Int) < ((k + 1 : Nat) : Int)) = true := decide_eq_true (by omega)
        have hd1' : decide ((0 : Int) < (k : Int) + 1) = true := decide_eq_true (by omega)
        clear hpy hyx HX z0 z1 z3 z4 z5 y0 y1 y3 y4 y5 hS6
        go_quiet (fail)
        go_wp2_with (fail)
        go_meet
        exact ⟨rfl, HS6.out.below (bl_drewN (Below.refl _ _) _)⟩
     case rest =>
      obtain ⟨rfl, hS7⟩ := hcut
      have HS7 := Lib.hid hS7
      clear hS6 HS6 y0 y1 y2 y3 y4 y5
      obtain ⟨y0, y1, y2, y3, y4, y5⟩ := hS7.cells
      obtain ⟨D, goes, hm1, hm2, hm3, hm4⟩ := hS7.seen
      have hhas := seen_none hm2 hm3 HNU.out
      have HM1 := Lib.hid hm1
      have HB7 := Lib.hid hS7.bel
      have hxa : (x.a : Int) ≤ 2097152 := by omega
      have hkey : keyOf Tryz.prog 3 (.int .i64 (x.a : Int)) = some (.int .i64 (x.a : Int)) := keyOf_int_mk Tryz.underlying3 (WalkArith.wf_i64 (by omega))
      have hkw : (Lit.int .i64 (k : Int)).wf = true := WalkArith.wf_i64 (by omega)
      have hwu : IntKind.i64.wrap ((used.length : Int) + 1) = (used.length : Int) + 1 := by rw [IntKind.wrap_i64]; omega
      have hul : used.length ≤ 39845888 := by omega
      have HCLA := Lib.hid (HAT.out x.a wc (HB3.out.trans (hS7.bel.mono HB3.out.size)))
      have hcl1 : ((clAt s (x.a : Int)).1 : Int) = (x.a : Int) := by rw [HCL.out]
      have hcl2 : ((clAt s (x.a : Int)).2 : Int) = (e : Int) := by rw [HCL.out, ← he]
      clear hS7 HNO HX
      go_upto_region 13 with (fail)
      go_upto_region 14 with (at_lookup; refine wpList_lookup_own_ok_int _ rfl _ _ 29 rfl 3 3 .i64 key_law Tryz.underlying29 Tryz.underlying3 (zero_int _) M _ D rfl HM1.out _ _ rfl hkey ?_; intro c0 hat0 hwc0; rw [hhas])
      clear hhas
      go_upto_region 16 with (fail)
      by_cases g1 : used.length < 20
      ·have g1d : decide ((used.length : Int) < 20) = true := decide_eq_true (by omega)
       go_upto_region 18 with (go_at_call 13; refine HCLA.out.mono ?_; rintro e' w8 ⟨rfl, hb8⟩)
       have hS8 := HS7.out.below hb8
       obtain ⟨z0, z1, z2, z3, z4, z5⟩ := hS8.cells
       obtain ⟨D2, goes2, hn1, hn2, hn3, hn4⟩ := hS8.seen
       have HN1 := Lib.hid hn1
       have HB8 := Lib.hid hS8.bel
       have hws := HWS.out
       clear hS8 hb8 hcl1 hcl2 HCLA y0 y1 y2 y3 y4 y5 he
       go_upto_region 20 with (fail)
       clear hws
       go_wp2_with (at_mapUpdate; refine wpList_mapUpdate_own _ rfl _ _ _ 29 rfl 3 3 key_law Tryz.underlying29 _ M _ D2 rfl HN1.out (by unfold maxLen; omega) _ _ _ rfl rfl hkey _ [] (plainElem_int Tryz.underlying3 hkw) ?_; intro w9 hown9 hg9)
       have hs9 := seen_put HN1.out hn2 hn3 hn4 HNU.out hown9
       have hb9 : Below w3.heap.size w8 w9 := (Below.refl _ _).grown hg9 (by have := HB8.out.size; omega) (fun j e => by cases e; omega)
       go_roundw
       case rel => exact ⟨k + 1, x.a :: used, by omega, by go_num, by rw [List.length_cons]; go_num, by rw [List.length_cons]; omega, HTN2.out, hs9, HB8.out.trans hb9⟩
       case measure => simp [intOf]; omega
      ·by_cases g2 : s.size < 2000
       ·have g1d : decide ((used.length : Int) < 20) = false := decide_eq_false (by omega)
        have g2d : decide ((s.size : Int) < 2000) = true := decide_eq_true (by omega)
        go_upto_region 18 with (go_at_call 13; refine HCLA.out.mono ?_; rintro e' w8 ⟨rfl, hb8⟩)
        have hS8 := HS7.out.below hb8
        obtain ⟨z0, z1, z2, z3, z4, z5⟩ := hS8.cells
        obtain ⟨D2, goes2, hn1, hn2, hn3, hn4⟩ := hS8.seen
        have HN1 := Lib.hid hn1
        have HB8 := Lib.hid hS8.bel
        have hws := HWS.out
        clear hS8 hb8 hcl1 hcl2 HCLA y0 y1 y2 y3 y4 y5 he
        go_upto_region 20 with (fail)
        clear hws
        go_wp2_with (at_mapUpdate; refine wpList_mapUpdate_own _ rfl _ _ _ 29 rfl 3 3 key_law Tryz.underlying29 _ M _ D2 rfl HN1.out (by unfold maxLen; omega) _ _ _ rfl rfl hkey _ [] (plainElem_int Tryz.underlying3 hkw) ?_; intro w9 hown9 hg9)
        have hs9 := seen_put HN1.out hn2 hn3 hn4 HNU.out hown9
        have hb9 : Below w3.heap.size w8 w9 := (Below.refl _ _).grown hg9 (by have := HB8.out.size; omega) (fun j e => by cases e; omega)
        go_roundw
        case rel => exact ⟨k + 1, x.a :: used, by omega, by go_num, by rw [List.length_cons]; go_num, by rw [List.length_cons]; omega, HTN2.out, hs9, HB8.out.trans hb9⟩
        case measure => simp [intOf]; omega
       ·have g1d : decide ((used.length : Int) < 20) = false := decide_eq_false (by omega)
        have g2d : decide ((s.size : Int) < 2000) = false := decide_eq_false (by omega)
        go_wp2_with (at_mapUpdate; refine wpList_mapUpdate_own _ rfl _ _ _ 29 rfl 3 3 key_law Tryz.underlying29 _ M _ D rfl HM1.out (by unfold maxLen; omega) _ _ _ rfl rfl hkey _ [] (plainElem_int Tryz.underlying3 hkw) ?_; intro w9 hown9 hg9)
        have hs9 := seen_put HM1.out hm2 hm3 hm4 HNU.out hown9
        have hb9 : Below w3.heap.size wc w9 := (Below.refl _ _).grown hg9 (by have := HB7.out.size; omega) (fun j e => by cases e; omega)
        go_roundw
        case rel => exact ⟨k + 1, x.a :: used, by omega, by go_num, by rw [List.length_cons]; go_num, by rw [List.length_cons]; omega, HTN2.out, hs9, HB7.out.trans hb9⟩
        case measure => simp [intOf]; omega
  ·obtain rfl : k = n := by omega
   obtain ⟨D, goes, hm1, hm2, hm3, hm4⟩ := HSr.out
   have hbw : Below w.heap.size w wr := HB3.out.trans (HBr.out.mono HB3.out.size)
   have HA := Lib.hid (HAL.out wr hbw)
   have HBW := Lib.hid hbw
   have HM1 := Lib.hid hm1
   clear hm1 hm2 hm3 hbw htl HOr HBr
   go_wp2_with (first | (at_len; refine wpList_len_own _ rfl _ 29 rfl 3 3 Tryz.underlying29 _ M _ D rfl HM1.out ?_; rw [hm4]) | (go_at_call 14; refine HA.out.mono ?_; rintro e w9 ⟨rfl, hb9⟩))
   go_ret
   exact ⟨rfl, HBW.out.trans (hb9.mono HBW.out.size)⟩
end
end Go.Proofs.YtlbclfmbejjneaaGreatDoor
