/- Plain laws of an isolate: what stands in it changes no level outside of it (a line c that has an isolate with nothing in it at place n0, and a line f that has L quiet ones in it there). No program is in sight. -/
import Derived.Test.YtbhhebheclfdlaaBoundsA
import Derived.Test.YtbhhebheclfdlaaLevG
namespace Go.Proofs.Ytbhhebheclfdlaa
set_option linter.unusedVariables false
set_option linter.unusedSimpArgs false

def Quiet (d : Int) : Prop := 0 ≤ d ∧ d ≤ 18 ∧ d ≠ 10
structure Iso (c f : List Int) (n0 L : Nat) : Prop where
  len : f.length = c.length + L
  lt : n0 + 1 < c.length
  low : ∀ p, p ≤ n0 → ith f p = ith c p
  high : ∀ p, n0 < p → ith f (p + L) = ith c p
  inn : ∀ i, n0 < i → i ≤ n0 + L → Quiet (ith f i)
  sign : 19 ≤ ith c n0 ∧ ith c n0 ≤ 21
  pdi : ith c (n0 + 1) = 22
theorem Quiet.lkn {d : Int} (h : Quiet d) : lkn d = d := by
  unfold Quiet at h
  unfold Go.Proofs.Ytbhhebheclfdlaa.lkn
  rw [if_neg (by omega)]
theorem Quiet.opens {d : Int} (h : Quiet d) : opensB d = false := by
  unfold Quiet at h
  unfold opensB
  simp only [Bool.and_eq_false_iff, decide_eq_false_iff_not]
  omega
theorem sign_lkn {d : Int} (h : 19 ≤ d ∧ d ≤ 21) : lkn d = d := by
  unfold lkn
  rw [if_neg (by omega)]
theorem sign_opens {d : Int} (h : 19 ≤ d ∧ d ≤ 21) : opensB d = true := by
  unfold opensB
  simp only [Bool.and_eq_true, decide_eq_true_eq]
  omega
theorem Iso.refl {c f : List Int} {n0 L : Nat} (h : Iso c f n0 L) : Iso c c n0 0 :=
  ⟨rfl, h.lt, fun _ _ => rfl, fun _ _ => rfl, fun i h1 h2 => by omega, h.sign, h.pdi⟩
theorem Iso.fsign {c f : List Int} {n0 L : Nat} (h : Iso c f n0 L) : 19 ≤ ith f n0 ∧ ith f n0 ≤ 21 := by
  rw [h.low n0 (Nat.le_refl _)]; exact h.sign
theorem Iso.fpdi {c f : List Int} {n0 L : Nat} (h : Iso c f n0 L) : ith f (n0 + 1 + L) = 22 := by
  rw [h.high (n0 + 1) (by omega)]; exact h.pdi
theorem lkn22 : lkn 22 = 22 := rfl
theorem opens22 : opensB 22 = false := rfl

/-! The first strong one. -/
theorem ith_dropP (l : List Int) (k i : Nat) : ith (l.drop k) i = ith l (k + i) := by
  unfold ith
  rw [List.getD_eq_getElem?_getD, List.getElem?_drop, List.getD_eq_getElem?_getD]
theorem firstF_drop (ds : List Int) (k : Nat) : ∀ (m i deep : Nat), firstF (ds.drop k) m i deep = firstF ds m (k + i) deep
  | 0, _, _ => rfl
  | m + 1, i, deep => by
    rw [firstF, firstF, ith_dropP, firstF_drop ds k m (i + 1), firstF_drop ds k m (i + 1), firstF_drop ds k m (i + 1)]
    rfl
theorem firstI_drop (ds : List Int) (k : Nat) : firstI (ds.drop k) = firstF ds (ds.length - k) k 0 := by
  unfold firstI
  rw [firstF_drop, List.length_drop]
  rfl
theorem Iso.first_high {c f : List Int} {n0 L : Nat} (h : Iso c f n0 L) : ∀ (m p deep : Nat), n0 < p → firstF f m (p + L) deep = firstF c m p deep
  | 0, _, _, _ => rfl
  | m + 1, p, deep, hp => by
    rw [firstF, firstF, h.high p hp, show p + L + 1 = (p + 1) + L by omega, Iso.first_high h m (p + 1) _ (by omega), Iso.first_high h m (p + 1) _ (by omega), Iso.first_high h m (p + 1) _ (by omega)]
theorem Iso.first_in {c f : List Int} {n0 L : Nat} (h : Iso c f n0 L) (m : Nat) : ∀ (k i deep : Nat), n0 < i → i + k = n0 + 1 + L → 0 < deep → firstF f (k + m) i deep = firstF f m (n0 + 1 + L) deep
  | 0, i, deep, h1, h2, h3 => by rw [Nat.zero_add, show i = n0 + 1 + L by omega]
  | k + 1, i, deep, h1, h2, h3 => by
    have hq := h.inn i h1 (by omega)
    rw [show k + 1 + m = (k + m) + 1 by omega, firstF, hq.lkn, hq.opens, if_neg (by simp), if_neg (by unfold Quiet at hq; omega), if_neg (by unfold Quiet at hq; omega), if_neg (by omega)]
    exact Iso.first_in h m k (i + 1) deep (by omega) (by omega) h3
theorem Iso.first_low {c f : List Int} {n0 L : Nat} (h : Iso c f n0 L) : ∀ (m p deep : Nat), p ≤ n0 → p + m = c.length → firstF f (m + L) p deep = firstF c m p deep
  | 0, p, deep, hp, hm => by have := h.lt; omega
  | m + 1, p, deep, hp, hm => by
    rw [show m + 1 + L = (m + L) + 1 by omega]
    rcases Nat.lt_or_ge p n0 with h' | h'
    · rw [firstF, firstF, h.low p hp, Iso.first_low h m (p + 1) _ (by omega) (by omega), Iso.first_low h m (p + 1) _ (by omega) (by omega), Iso.first_low h m (p + 1) _ (by omega) (by omega)]
    · obtain rfl : p = n0 := by omega
      have hs := h.sign
      rw [firstF, firstF, h.low p hp, sign_lkn hs, sign_opens hs, if_pos rfl, if_pos rfl, show m + L = L + m by omega, Iso.first_in h m L (p + 1) (deep + 1) (by omega) (by omega) (by omega)]
      exact Iso.first_high h m (p + 1) (deep + 1) (by omega)
theorem Iso.firstI_low {c f : List Int} {n0 L : Nat} (h : Iso c f n0 L) (k : Nat) (hk : k ≤ n0) : firstI (f.drop k) = firstI (c.drop k) := by
  have := h.lt
  rw [firstI_drop, firstI_drop, h.len, show c.length + L - k = (c.length - k) + L by omega]
  exact h.first_low _ k 0 hk (by omega)
theorem Iso.firstI_high {c f : List Int} {n0 L : Nat} (h : Iso c f n0 L) (k : Nat) (hk : n0 < k) : firstI (f.drop (k + L)) = firstI (c.drop k) := by
  rw [firstI_drop, firstI_drop, h.len, show c.length + L - (k + L) = c.length - k by omega]
  exact h.first_high _ k 0 hk

/-! The place behind a PDI that ends nothing. -/
theorem afterF_bdP (ds : List Int) : ∀ (m i deep : Nat), afterF ds m i deep = -1 ∨ ((i : Int) < afterF ds m i deep ∧ afterF ds m i deep ≤ (i : Int) + m)
  | 0, _, _ => .inl rfl
  | m + 1, i, deep => by
    rw [afterF]
    split
    · have := afterF_bdP ds m (i + 1) (deep + 1); omega
    split
    · right; omega
    split
    · have := afterF_bdP ds m (i + 1) (deep - 1); omega
    split
    · exact .inl rfl
    · have := afterF_bdP ds m (i + 1) deep; omega
theorem Iso.after_high {c f : List Int} {n0 L : Nat} (h : Iso c f n0 L) : ∀ (m p deep : Nat), n0 < p → afterF f m (p + L) deep = if afterF c m p deep = -1 then -1 else afterF c m p deep + L
  | 0, _, _, _ => rfl
  | m + 1, p, deep, hp => by
    have i1 := Iso.after_high h m (p + 1) (deep + 1) (by omega)
    have i2 := Iso.after_high h m (p + 1) (deep - 1) (by omega)
    have i3 := Iso.after_high h m (p + 1) deep (by omega)
    rw [afterF, afterF, h.high p hp, show p + L + 1 = (p + 1) + L by omega, i1, i2, i3]
    split
    · rfl
    split
    · rw [if_neg (by omega)]; omega
    split
    · rfl
    split
    · rfl
    · rfl
theorem Iso.after_in {c f : List Int} {n0 L : Nat} (h : Iso c f n0 L) (m : Nat) : ∀ (k i deep : Nat), n0 < i → i + k = n0 + 1 + L → afterF f (k + m) i deep = afterF f m (n0 + 1 + L) deep
  | 0, i, deep, h1, h2 => by rw [Nat.zero_add, show i = n0 + 1 + L by omega]
  | k + 1, i, deep, h1, h2 => by
    have hq := h.inn i h1 (by omega)
    rw [show k + 1 + m = (k + m) + 1 by omega, afterF, hq.lkn, hq.opens, if_neg (by simp), if_neg (by unfold Quiet at hq; omega), if_neg (by unfold Quiet at hq; omega), if_neg (by unfold Quiet at hq; omega)]
    exact Iso.after_in h m k (i + 1) deep (by omega) (by omega)
theorem Iso.after_low {c f : List Int} {n0 L : Nat} (h : Iso c f n0 L) : ∀ (m p deep : Nat), p ≤ n0 → p + m = c.length →
    afterF f (m + L) p deep = if afterF c m p deep ≤ (n0 : Int) then afterF c m p deep else afterF c m p deep + L
  | 0, p, deep, hp, hm => by have := h.lt; omega
  | m + 1, p, deep, hp, hm => by
    rw [show m + 1 + L = (m + L) + 1 by omega]
    rcases Nat.lt_or_ge p n0 with h' | h'
    · have i1 := Iso.after_low h m (p + 1) (deep + 1) (by omega) (by omega)
      have i2 := Iso.after_low h m (p + 1) (deep - 1) (by omega) (by omega)
      have i3 := Iso.after_low h m (p + 1) deep (by omega) (by omega)
      rw [afterF, afterF, h.low p hp, i1, i2, i3]
      split
      · rfl
      split
      · rw [if_pos (by omega)]
      split
      · rfl
      split
      · rw [if_pos (by omega)]
      · rfl
    · obtain rfl : p = n0 := by omega
      have hs := h.sign
      rw [afterF, afterF, h.low p hp, sign_lkn hs, sign_opens hs, if_pos rfl, if_pos rfl, show m + L = L + m by omega, Iso.after_in h m L (p + 1) (deep + 1) (by omega) (by omega), Iso.after_high h m (p + 1) (deep + 1) (by omega)]
      have hb := afterF_bdP c m (p + 1) (deep + 1)
      split
      · rename_i h1
        rw [h1, if_pos (by omega)]
      · rw [if_neg (by omega)]
theorem Iso.skip_low {c f : List Int} {n0 L : Nat} (h : Iso c f n0 L) : ∀ (m p : Nat), p ≤ n0 → p + m = c.length → skipF f (m + L) p = skipF c m p ∧ skipF c m p ≤ n0
  | 0, p, hp, hm => by have := h.lt; omega
  | m + 1, p, hp, hm => by
    rw [show m + 1 + L = (m + L) + 1 by omega]
    rcases Nat.lt_or_ge p n0 with h' | h'
    · have ih := Iso.skip_low h m (p + 1) (by omega) (by omega)
      rw [skipF, skipF, h.low p hp]
      split
      · exact ih
      · exact ⟨rfl, hp⟩
    · obtain rfl : p = n0 := by omega
      have hs := h.sign
      rw [skipF, skipF, h.low p hp, sign_lkn hs, if_neg (by omega), if_neg (by omega)]
      exact ⟨rfl, hp⟩
theorem Iso.drop {c f : List Int} {n0 L : Nat} (h : Iso c f n0 L) (x : Nat) (hx : x ≤ n0) : Iso (c.drop x) (f.drop x) (n0 - x) L := by
  have h1 := h.len
  have h2 := h.lt
  refine ⟨by rw [List.length_drop, List.length_drop]; omega, by rw [List.length_drop]; omega, fun p hp => ?_, fun p hp => ?_, fun i i1 i2 => ?_, ?_, ?_⟩
  · rw [ith_dropP, ith_dropP]; exact h.low _ (by omega)
  · rw [ith_dropP, ith_dropP, show x + (p + L) = (x + p) + L by omega]; exact h.high _ (by omega)
  · rw [ith_dropP]; exact h.inn _ (by omega) (by omega)
  · rw [ith_dropP, show x + (n0 - x) = n0 by omega]; exact h.sign
  · rw [ith_dropP, show x + (n0 - x + 1) = n0 + 1 by omega]; exact h.pdi
theorem ith_ext {a b : List Int} (hl : a.length = b.length) (h : ∀ i, i < a.length → ith a i = ith b i) : a = b := by
  refine List.ext_getElem hl fun i h1 h2 => ?_
  have := h i h1
  unfold ith at this
  rw [List.getD_eq_getElem?_getD, List.getElem?_eq_getElem h1, List.getD_eq_getElem?_getD, List.getElem?_eq_getElem h2] at this
  exact this
theorem Iso.drop_high {c f : List Int} {n0 L : Nat} (h : Iso c f n0 L) (x : Nat) (hx : n0 < x) : f.drop (x + L) = c.drop x := by
  have h1 := h.len
  refine ith_ext (by rw [List.length_drop, List.length_drop]; omega) fun i _ => ?_
  rw [ith_dropP, ith_dropP, show x + L + i = (x + i) + L by omega]
  exact h.high _ (by omega)
theorem skipF_le (ds : List Int) : ∀ m i, skipF ds m i ≤ i + m
  | 0, i => Nat.le_refl _
  | m + 1, i => by
    rw [skipF]
    split
    · have := skipF_le ds m (i + 1); omega
    · omega
theorem baseF_fuel (want : Int) : ∀ (k1 k2 : Nat) (ds : List Int), ds.length < k1 → ds.length < k2 → baseF want k1 ds = baseF want k2 ds
  | 0, k2, ds, h1, h2 => by omega
  | k1 + 1, 0, ds, h1, h2 => by omega
  | k1 + 1, k2 + 1, ds, h1, h2 => by
    rw [baseF, baseF]
    have hs := skipF_le ds ds.length 0
    have hb := afterF_bdP ds (ds.length - skipF ds ds.length 0) (skipF ds ds.length 0) 0
    generalize skipF ds ds.length 0 = sk at *
    generalize afterF ds (ds.length - sk) sk 0 = af at *
    by_cases hlt : (sk : Int) < af
    · have ih := baseF_fuel want k1 k2 (ds.drop af.toNat) (by rw [List.length_drop]; omega) (by rw [List.length_drop]; omega)
      rw [ih]
    · rw [if_neg hlt, if_neg hlt]
theorem Iso.base {want : Int} : ∀ (k : Nat) {c f : List Int} {n0 L : Nat}, Iso c f n0 L → c.length < k → baseF want (k + L) f = baseF want k c
  | 0, c, f, n0, L, h, hk => by omega
  | k + 1, c, f, n0, L, h, hk => by
    have hlen := h.len
    have hlt := h.lt
    have hs := h.skip_low c.length 0 (by omega) (by omega)
    rw [show k + 1 + L = (k + L) + 1 by omega, baseF, baseF, hlen, hs.1]
    have hsk := hs.2
    generalize hkk : skipF c c.length 0 = sk at *
    rw [h.low sk hsk, h.firstI_low sk hsk, show c.length + L - sk = (c.length - sk) + L by omega, h.after_low (c.length - sk) sk 0 hsk (by omega)]
    have hb := afterF_bdP c (c.length - sk) sk 0
    generalize afterF c (c.length - sk) sk 0 = af at *
    rw [if_neg (show ¬ sk = c.length + L by omega), if_neg (show ¬ sk = c.length by omega)]
    have key : (if (sk : Int) < (if af ≤ (n0 : Int) then af else af + L) then baseF want (k + L) (f.drop (if af ≤ (n0 : Int) then af else af + L).toNat) else 0)
        = if (sk : Int) < af then baseF want k (c.drop af.toNat) else 0 := by
      by_cases h1 : (sk : Int) < af
      · rw [if_pos h1]
        by_cases h2 : af ≤ (n0 : Int)
        · rw [if_pos h2, if_pos h1]
          exact Iso.base k (h.drop af.toNat (by omega)) (by rw [List.length_drop]; omega)
        · rw [if_neg h2, if_pos (by omega), show (af + (L : Int)).toNat = af.toNat + L by omega, h.drop_high af.toNat (by omega)]
          exact baseF_fuel want _ _ _ (by rw [List.length_drop]; omega) (by rw [List.length_drop]; omega)
      · rw [if_neg h1]
        rw [if_pos (show af ≤ (n0 : Int) by omega), if_neg h1]
    rw [key]
theorem Iso.baseI {c f : List Int} {n0 L : Nat} (h : Iso c f n0 L) (want : Int) : baseI f want = baseI c want := by
  unfold Go.Proofs.Ytbhhebheclfdlaa.baseI
  rw [h.len, show c.length + L + 1 = (c.length + 1) + L by omega]
  exact Iso.base (c.length + 1) h (by omega)

/-! The pile ahead of each place. -/
def pileAt (base : Nat) (ds : List Int) : Nat → LPile
  | 0 => ⟨[⟨base, -1, false⟩], 0, 0, 0⟩
  | i + 1 => ((pileAt base ds i).step base ds i).1
theorem getD_snoc {α : Type} (l : List α) (x d : α) (i : Nat) : (l ++ [x]).getD i d = if i < l.length then l.getD i d else if i = l.length then x else d := by
  rw [List.getD_eq_getElem?_getD]
  split
  · rename_i h; rw [List.getElem?_append_left h, ← List.getD_eq_getElem?_getD]
  · rename_i h
    rw [List.getElem?_append_right (by omega)]
    split
    · rename_i h2; subst h2; simp
    · rw [List.getElem?_eq_none (by rw [List.length_singleton]; omega)]; rfl
theorem levF_at (base : Nat) (ds : List Int) : ∀ (m i : Nat) (ls : List Nat) (ks : List Int), ls.length = i → ks.length = i →
    (∀ j, j < i → ls.getD j 0 = ((pileAt base ds j).step base ds j).2.1 ∧ ith ks j = ((pileAt base ds j).step base ds j).2.2) →
    ∀ j, j < i + m → (levF base ds m i (pileAt base ds i) ls ks).1.getD j 0 = ((pileAt base ds j).step base ds j).2.1 ∧ ith (levF base ds m i (pileAt base ds i) ls ks).2 j = ((pileAt base ds j).step base ds j).2.2
  | 0, i, ls, ks, h1, h2, h => h
  | m + 1, i, ls, ks, h1, h2, h => by
    intro j hj
    rw [levF]
    refine levF_at base ds m (i + 1) _ _ (by rw [List.length_append, h1]; rfl) (by rw [List.length_append, h2]; rfl) (fun q hq => ?_) j (by omega)
    unfold ith
    rw [getD_snoc, getD_snoc, h1, h2]
    rcases Nat.lt_or_ge q i with h' | h'
    · rw [if_pos h', if_pos h']; exact h q h'
    · obtain rfl : q = i := by omega
      rw [if_neg (by omega), if_pos rfl, if_neg (by omega), if_pos rfl]
      exact ⟨rfl, rfl⟩
theorem levI_at (ds : List Int) (base : Nat) (hb : base ≤ 125) (j : Nat) (hj : j < ds.length) :
    (levI ds base).1.getD j 0 = ((pileAt base ds j).step base ds j).2.1 ∧ ith (levI ds base).2 j = ((pileAt base ds j).step base ds j).2.2 := by
  unfold levI
  rw [show min base 125 = base by omega]
  exact levF_at base ds ds.length 0 [] [] rfl rfl (fun q hq => by omega) j (by omega)
theorem pileAt_ok (base : Nat) (hb : base ≤ 125) (ds : List Int) : ∀ i, (pileAt base ds i).Ok i
  | 0 => LPile.begin_ok base 0 hb
  | i + 1 => (pileAt_ok base hb ds i).step base hb ds i
theorem step_congr (P : LPile) (base : Nat) (c f : List Int) (i j : Nat) (h : ith f j = ith c i) (hf : firstI (f.drop (j + 1)) = firstI (c.drop (i + 1))) : P.step base f j = P.step base c i := by
  unfold LPile.step
  rw [h, hf]
/-- so few places: nothing is too deep -/
structure LPile.Flat (P : LPile) (i : Nat) : Prop where
  deep : P.deep = 0
  emb : P.emb = 0
  lev : ∀ s ∈ P.states, s.level ≤ 1 + 2 * i
theorem LPile.next_le (P : LPile) (odd : Bool) : P.next odd ≤ P.top.level + 2 ∧ P.top.level < P.next odd := by
  unfold LPile.next
  split <;> omega
theorem LPile.Flat.lev_mono {P : LPile} {i : Nat} (h : P.Flat i) : ∀ s ∈ P.states, s.level ≤ 1 + 2 * (i + 1) := fun s hs => by have := h.lev s hs; omega
theorem LPile.Flat.room {P : LPile} {i j : Nat} (h : P.Flat i) (ho : P.Ok j) (hi : i ≤ 61) (odd : Bool) : P.room odd = true := by
  have := P.next_le odd
  have := h.lev _ (P.top_mem ho.ne)
  unfold LPile.room
  rw [h.deep, h.emb]
  simp
  omega
theorem LPile.Flat.lay {P : LPile} {i j : Nat} (h : P.Flat i) (ho : P.Ok j) (odd : Bool) (over : Int) (iso : Bool) : (P.lay odd over iso).Flat (i + 1) := by
  unfold LPile.lay
  split
  · refine ⟨h.deep, h.emb, fun s hs => ?_⟩
    have hs : s ∈ P.states ++ [⟨P.next odd, over, iso⟩] := hs
    rw [List.mem_append, List.mem_singleton] at hs
    rcases hs with hs | rfl
    · exact h.lev_mono s hs
    · have := P.next_le odd
      have := h.lev _ (P.top_mem ho.ne)
      show P.next odd ≤ _
      omega
  · exact ⟨h.deep, h.emb, h.lev_mono⟩
theorem LPile.popTo_mem' : ∀ (n : Nat) (P : LPile), (∀ s, s ∈ (LPile.popTo n P).states → s ∈ P.states) ∧ (LPile.popTo n P).deep = P.deep ∧ (LPile.popTo n P).emb = P.emb ∧ (LPile.popTo n P).opn = P.opn
  | 0, P => ⟨fun _ h => h, rfl, rfl, rfl⟩
  | n + 1, P => by
    rw [LPile.popTo]
    split
    · exact ⟨fun _ h => h, rfl, rfl, rfl⟩
    · have ih := LPile.popTo_mem' n P.pop
      exact ⟨fun s hs => P.pop_mem (ih.1 s hs), ih.2.1, ih.2.2.1, ih.2.2.2⟩
theorem LPile.Flat.step {P : LPile} {i : Nat} (h : P.Flat i) (ho : P.Ok i) (hi : i ≤ 61) (base : Nat) (hb : base ≤ 1) (ds : List Int) (j : Nat) : (P.step base ds j).1.Flat (i + 1) := by
  unfold LPile.step
  simp only
  split
  · show (P.embed _).Flat (i + 1)
    unfold LPile.embed
    simp only
    rw [if_pos (h.room ho hi _)]
    exact h.lay ho _ _ _
  split
  · rw [if_pos (h.room ho hi _)]
    have := h.lay ho (if lkn (ith ds j) = 21 then decide (firstI (ds.drop (j + 1)) = 1) || decide (firstI (ds.drop (j + 1)) = 2) else decide (lkn (ith ds j) = 20)) (-1) true
    exact ⟨this.deep, this.emb, this.lev⟩
  split
  · show P.close.Flat (i + 1)
    unfold LPile.close
    rw [if_neg (by rw [h.deep]; omega)]
    split
    · have hm := LPile.popTo_mem' P.states.length { P with emb := 0 }
      refine ⟨hm.2.1.trans h.deep, hm.2.2.1, fun s hs => h.lev_mono s (hm.1 s (LPile.pop_mem _ hs))⟩
    · exact ⟨h.deep, h.emb, h.lev_mono⟩
  split
  · show P.fin.Flat (i + 1)
    unfold LPile.fin
    rw [if_neg (by rw [h.deep]; omega), if_neg (by rw [h.emb]; omega)]
    split
    · exact ⟨h.deep, h.emb, fun s hs => h.lev_mono s (P.pop_mem hs)⟩
    · exact ⟨h.deep, h.emb, h.lev_mono⟩
  split
  · exact ⟨h.deep, h.emb, h.lev_mono⟩
  split
  · refine ⟨rfl, rfl, fun s hs => ?_⟩
    have hs : s ∈ [(⟨base, -1, false⟩ : LSt)] := hs
    rw [List.mem_singleton] at hs
    subst hs
    show base ≤ _
    omega
  · exact ⟨h.deep, h.emb, h.lev_mono⟩
theorem pileAt_flat (base : Nat) (hb : base ≤ 1) (ds : List Int) : ∀ i, i ≤ 61 → (pileAt base ds i).Flat i
  | 0, _ => ⟨rfl, rfl, fun s hs => by
      have hs : s ∈ [(⟨base, -1, false⟩ : LSt)] := hs
      rw [List.mem_singleton] at hs
      subst hs
      show base ≤ _
      omega⟩
  | i + 1, hi => (pileAt_flat base hb ds i (by omega)).step (pileAt_ok base (by omega) ds i) (by omega) base hb ds i
/-- within the isolate: what stood there, the isolate's state t, and E above it -/
def Within (S P : LPile) : Prop := ∃ (t : LSt) (E : List LSt), P.states = S.states ++ t :: E ∧ t.iso = true ∧ (∀ e ∈ E, e.iso = false) ∧ (∀ e ∈ t :: E, S.top.level < e.level) ∧ P.opn = S.opn + 1 ∧ P.deep = 0
theorem top_of {P : LPile} {S : List LSt} {t : LSt} {E : List LSt} (h : P.states = S ++ t :: E) : P.top = E.getLastD t := by
  unfold LPile.top
  rw [h, List.getLastD_eq_getLast?, List.getLast?_append, List.getLast?_cons, Option.some_or, Option.getD_some, List.getLastD_eq_getLast?]
theorem Within.top {S P : LPile} (h : Within S P) : S.top.level < P.top.level := by
  obtain ⟨t, E, h1, h2, h3, h4, h5, h6⟩ := h
  have hm : P.top ∈ t :: E := by
    rw [top_of h1]
    exact List.getLastD_mem_cons
  exact h4 _ hm
theorem Within.pop {S P : LPile} (h : Within S P) (ht : P.top.iso = false) : Within S P.pop := by
  obtain ⟨t, E, h1, h2, h3, h4, h5, h6⟩ := h
  rcases List.eq_nil_or_concat E with rfl | ⟨E', e, rfl⟩
  · exfalso
    have : P.top = t := by rw [top_of h1]; rfl
    rw [this, h2] at ht
    cases ht
  · refine ⟨t, E', ?_, h2, fun x hx => h3 x (by simp [hx]), fun x hx => h4 x (by rw [List.mem_cons] at hx ⊢; rcases hx with hx | hx; exact .inl hx; exact .inr (by simp [hx])), h5, h6⟩
    unfold LPile.pop
    rw [h1]
    have e1 : S.states ++ t :: E'.concat e = (S.states ++ t :: E') ++ [e] := by simp
    rw [e1, List.length_append, List.length_singleton, Nat.add_sub_cancel, List.take_left]
theorem Within.step {S P : LPile} (h : Within S P) (base : Nat) (ds : List Int) (j : Nat) (hq : Quiet (ith ds j)) : Within S (P.step base ds j).1 ∧ S.top.level < (P.step base ds j).2.1 := by
  have ht := h.top
  unfold LPile.step
  simp only
  rw [hq.lkn]
  unfold Quiet at hq
  split
  · refine ⟨?_, ht⟩
    unfold LPile.embed
    simp only
    split
    · rename_i hr
      unfold LPile.lay
      rw [if_pos hr]
      obtain ⟨t, E, h1, h2, h3, h4, h5, h6⟩ := h
      refine ⟨t, E ++ [⟨P.next (decide (ith ds j = 15) || decide (ith ds j = 17)), if ith ds j = 16 then 0 else if ith ds j = 17 then 1 else -1, false⟩], ?_, h2, fun x hx => ?_, fun x hx => ?_, h5, h6⟩
      · show P.states ++ [_] = _
        rw [h1, List.append_assoc]; rfl
      · rw [List.mem_append, List.mem_singleton] at hx
        rcases hx with hx | hx
        · exact h3 x hx
        · rw [hx]
      · rw [List.mem_cons, List.mem_append, List.mem_singleton] at hx
        rcases hx with hx | hx | hx
        · exact h4 x (by rw [hx]; exact List.mem_cons_self)
        · exact h4 x (List.mem_cons_of_mem _ hx)
        · have := (P.next_le (decide (ith ds j = 15) || decide (ith ds j = 17))).2
          rw [hx]
          show S.top.level < P.next _
          omega
    · obtain ⟨t, E, h1, h2, h3, h4, h5, h6⟩ := h
      split
      · exact ⟨t, E, h1, h2, h3, h4, h5, h6⟩
      · exact ⟨t, E, h1, h2, h3, h4, h5, h6⟩
  · rw [if_neg (by omega), if_neg (by omega)]
    split
    · have hf : Within S P.fin := by
        unfold LPile.fin
        split
        · exact h
        split
        · obtain ⟨t, E, h1, h2, h3, h4, h5, h6⟩ := h
          exact ⟨t, E, h1, h2, h3, h4, h5, h6⟩
        split
        · rename_i h1; exact h.pop h1.2
        · exact h
      exact ⟨hf, hf.top⟩
    · split
      · exact ⟨h, ht⟩
      · rw [if_neg (by omega)]
        exact ⟨h, ht⟩
theorem Within.popTo {S : LPile} : ∀ (n : Nat) (P : LPile), Within S P → P.states.length ≤ n + S.states.length + 1 → ∃ t, (LPile.popTo n P).states = S.states ++ [t]
  | 0, P, h, hn => by
    obtain ⟨t, E, h1, h2, h3, h4, h5, h6⟩ := h
    have : E = [] := List.eq_nil_of_length_eq_zero (by rw [h1, List.length_append, List.length_cons] at hn; omega)
    subst this
    exact ⟨t, h1⟩
  | n + 1, P, h, hn => by
    rw [LPile.popTo]
    split
    · rename_i ht
      obtain ⟨t, E, h1, h2, h3, h4, h5, h6⟩ := h
      rcases List.eq_nil_or_concat E with rfl | ⟨E', e, rfl⟩
      · exact ⟨t, h1⟩
      · exfalso
        have : P.top = e := by
          rw [top_of h1]
          simp
        rw [this, h3 e (by simp)] at ht
        cases ht
    · rename_i ht
      exact Within.popTo n P.pop (h.pop (by simpa using ht)) (by rw [P.pop_len]; omega)
theorem Within.close {S P : LPile} (h : Within S P) : P.close = ⟨S.states, S.opn, 0, 0⟩ := by
  obtain ⟨t, E, h1, h2, h3, h4, h5, h6⟩ := id h
  unfold LPile.close
  rw [if_neg (by omega), if_pos (by omega)]
  have hw : Within S { P with emb := 0 } := ⟨t, E, h1, h2, h3, h4, h5, h6⟩
  obtain ⟨t', ht'⟩ := Within.popTo P.states.length { P with emb := 0 } hw (by show P.states.length ≤ _; omega)
  have hm := LPile.popTo_mem' P.states.length { P with emb := 0 }
  have e1 : (LPile.popTo P.states.length { P with emb := 0 }).pop.states = S.states := by
    unfold LPile.pop
    simp only
    rw [ht', List.length_append, List.length_singleton, Nat.add_sub_cancel, List.take_left]
  have e2 : (LPile.popTo P.states.length { P with emb := 0 }).pop.deep = 0 := hm.2.1.trans h6
  have e3 : (LPile.popTo P.states.length { P with emb := 0 }).pop.emb = 0 := hm.2.2.1
  generalize (LPile.popTo P.states.length { P with emb := 0 }).pop = R at e1 e2 e3 ⊢
  cases R
  simp only at e1 e2 e3 ⊢
  rw [e1, e2, e3, h5, Nat.add_sub_cancel]

/-! The levels and kinds outside are the same. -/
def phi (n0 L p : Nat) : Nat := if p ≤ n0 then p else p + L
theorem Iso.pile_low {c f : List Int} {n0 L : Nat} (h : Iso c f n0 L) (base : Nat) : ∀ i, i ≤ n0 → pileAt base f i = pileAt base c i
  | 0, _ => rfl
  | i + 1, hi => by
    rw [pileAt, pileAt, h.pile_low base i (by omega), step_congr _ base c f i i (h.low i (by omega)) (h.firstI_low (i + 1) hi)]
theorem Iso.pile_in {c f : List Int} {n0 L : Nat} (h : Iso c f n0 L) (base : Nat) (hb : base ≤ 1) (hn : n0 ≤ 60) : ∀ k, k ≤ L → Within (pileAt base c n0) (pileAt base f (n0 + 1 + k))
  | 0, _ => by
    rw [Nat.add_zero, pileAt, h.pile_low base n0 (Nat.le_refl _)]
    have hfl := pileAt_flat base hb c n0 (by omega)
    have hok := pileAt_ok base (by omega) c n0
    generalize pileAt base c n0 = S at *
    have hs := h.fsign
    unfold LPile.step
    simp only
    rw [sign_lkn hs, if_neg (by omega), if_pos hs]
    simp only
    rw [if_pos (hfl.room hok (by omega) _)]
    unfold LPile.lay
    rw [if_pos (hfl.room hok (by omega) _)]
    refine ⟨_, [], rfl, rfl, fun e he => by simp at he, fun e he => ?_, rfl, hfl.deep⟩
    rw [List.mem_singleton] at he
    subst he
    exact (S.next_le _).2
  | k + 1, hk => by
    rw [show n0 + 1 + (k + 1) = (n0 + 1 + k) + 1 by omega, pileAt]
    exact ((h.pile_in base hb hn k (by omega)).step base f (n0 + 1 + k) (h.inn _ (by omega) (by omega))).1
theorem Iso.pile_pdi {c f : List Int} {n0 L : Nat} (h : Iso c f n0 L) (base : Nat) (hb : base ≤ 1) (hn : n0 ≤ 60) :
    (pileAt base f (n0 + 1 + L)).step base f (n0 + 1 + L) = (⟨(pileAt base c n0).states, (pileAt base c n0).opn, 0, 0⟩, (pileAt base c n0).top.level, (pileAt base c n0).said 22) := by
  have hc := (h.pile_in base hb hn L (Nat.le_refl _)).close
  unfold LPile.step
  simp only
  rw [h.fpdi, lkn22, if_neg (by omega), if_neg (by omega), if_pos rfl, hc]
  rfl
theorem Iso.pile_high {c f : List Int} {n0 L : Nat} (h : Iso c f n0 L) (base : Nat) (hb : base ≤ 1) (hn : n0 ≤ 60) : ∀ i, n0 + 2 ≤ i → pileAt base f (i + L) = pileAt base c i := by
  intro i hi
  obtain ⟨k, rfl⟩ : ∃ k, i = n0 + 2 + k := ⟨i - (n0 + 2), by omega⟩
  clear hi
  induction k with
  | zero =>
    rw [show n0 + 2 + 0 + L = (n0 + 1 + L) + 1 by omega, show n0 + 2 + 0 = (n0 + 1 + 0) + 1 by omega, pileAt, pileAt, h.pile_pdi base hb hn, h.refl.pile_pdi base hb hn]
  | succ k ih =>
    rw [show n0 + 2 + (k + 1) + L = (n0 + 2 + k + L) + 1 by omega, show n0 + 2 + (k + 1) = (n0 + 2 + k) + 1 by omega, pileAt, pileAt, ih,
      step_congr _ base c f (n0 + 2 + k) (n0 + 2 + k + L) (h.high _ (by omega)) (by rw [show n0 + 2 + k + L + 1 = (n0 + 2 + k + 1) + L by omega]; exact h.firstI_high _ (by omega))]
theorem Iso.step_at {c f : List Int} {n0 L : Nat} (h : Iso c f n0 L) (base : Nat) (hb : base ≤ 1) (hn : n0 ≤ 60) (p : Nat) :
    ((pileAt base f (phi n0 L p)).step base f (phi n0 L p)).2 = ((pileAt base c p).step base c p).2 := by
  unfold phi
  split
  · rename_i hp
    rw [h.pile_low base p hp]
    rcases Nat.lt_or_ge p n0 with h' | h'
    · rw [step_congr _ base c f p p (h.low p hp) (h.firstI_low (p + 1) (by omega))]
    · obtain rfl : p = n0 := by omega
      have hs := h.sign
      have h14 : ¬ (14 ≤ ith c p ∧ ith c p ≤ 17) := by omega
      unfold LPile.step
      simp only [h.low p hp, sign_lkn hs, if_neg h14, if_pos hs]
  · rename_i hp
    rcases Nat.lt_or_ge (n0 + 1) p with h' | h'
    · rw [h.pile_high base hb hn p (by omega), step_congr _ base c f p (p + L) (h.high p (by omega)) (by rw [show p + L + 1 = (p + 1) + L by omega]; exact h.firstI_high _ (by omega))]
    · obtain rfl : p = n0 + 1 := by omega
      have h0 := h.refl.pile_pdi base hb hn
      rw [Nat.add_zero] at h0
      rw [h.pile_pdi base hb hn, h0]
theorem Iso.lev {c f : List Int} {n0 L : Nat} (h : Iso c f n0 L) (base : Nat) (hb : base ≤ 1) (hn : n0 ≤ 60) (p : Nat) (hp : p < c.length) :
    (levI f base).1.getD (phi n0 L p) 0 = (levI c base).1.getD p 0 ∧ ith (levI f base).2 (phi n0 L p) = ith (levI c base).2 p := by
  have hlen := h.len
  have hpf : phi n0 L p < f.length := by unfold phi; split <;> omega
  have h1 := levI_at f base (by omega) (phi n0 L p) hpf
  have h2 := levI_at c base (by omega) p hp
  rw [h1.1, h1.2, h2.1, h2.2, h.step_at base hb hn p]
  exact ⟨rfl, rfl⟩
/-- the sign's and its PDI's level are one; what stands between lies above -/
theorem Iso.lev_in {c f : List Int} {n0 L : Nat} (h : Iso c f n0 L) (base : Nat) (hb : base ≤ 1) (hn : n0 ≤ 60) :
    (levI c base).1.getD (n0 + 1) 0 = (levI c base).1.getD n0 0 ∧ ∀ i, n0 < i → i ≤ n0 + L → (levI c base).1.getD n0 0 < (levI f base).1.getD i 0 := by
  have hlen := h.len
  have hlt := h.lt
  have e0 : (levI c base).1.getD n0 0 = (pileAt base c n0).top.level := by
    rw [(levI_at c base (by omega) n0 (by omega)).1]
    have hs := h.sign
    unfold LPile.step
    simp only
    rw [sign_lkn hs, if_neg (by omega), if_pos hs]
  refine ⟨?_, fun i h1 h2 => ?_⟩
  · rw [e0, (levI_at c base (by omega) (n0 + 1) (by omega)).1]
    have h0 := h.refl.pile_pdi base hb hn
    rw [Nat.add_zero] at h0
    rw [h0]
  · rw [e0, (levI_at f base (by omega) i (by omega)).1]
    have hw := h.pile_in base hb hn (i - (n0 + 1)) (by omega)
    rw [show n0 + 1 + (i - (n0 + 1)) = i by omega] at hw
    exact (hw.step base f i (h.inn i h1 h2)).2

theorem phi_inj {n0 L p q : Nat} (h : phi n0 L p = phi n0 L q) : p = q := by unfold phi at h; split at h <;> split at h <;> omega
theorem phi_out {n0 L p i : Nat} (h1 : n0 < i) (h2 : i ≤ n0 + L) : phi n0 L p ≠ i := by unfold phi; split <;> omega
theorem phi_low {n0 L p : Nat} (h : p ≤ n0) : phi n0 L p = p := if_pos h
theorem phi_high {n0 L p : Nat} (h : n0 < p) : phi n0 L p = p + L := if_neg (by omega)
def phiZ (n0 L : Nat) (x : Int) : Int := if x ≤ (n0 : Int) then x else x + L
theorem phiZ_nat (n0 L p : Nat) : phiZ n0 L (p : Int) = ((phi n0 L p : Nat) : Int) := by unfold phiZ phi; split <;> split <;> omega
theorem phiZ_inj {n0 L : Nat} {x y : Int} (h : phiZ n0 L x = phiZ n0 L y) : x = y := by unfold phiZ at h; split at h <;> split at h <;> omega
theorem phiZ_neg (n0 L : Nat) : phiZ n0 L (-1) = -1 := by unfold phiZ; rw [if_pos (by omega)]
theorem phiZ_sign (n0 L : Nat) (x : Int) : phiZ n0 L x < 0 ↔ x < 0 := by unfold phiZ; split <;> omega
theorem Iso.phi_lt {c f : List Int} {n0 L p : Nat} (h : Iso c f n0 L) (hp : p < c.length) : phi n0 L p < f.length := by
  have := h.len; unfold phi; split <;> omega
theorem Iso.at' {c f : List Int} {n0 L : Nat} (h : Iso c f n0 L) (p : Nat) : ith f (phi n0 L p) = ith c p := by
  unfold phi
  split
  · rename_i hp; exact h.low p hp
  · rename_i hp; exact h.high p (by omega)
theorem ith_setQ (l : List Int) (i j : Nat) (v : Int) (h : i < l.length) : ith (l.set i v) j = if i = j then v else ith l j := by
  unfold ith
  rw [List.getD_eq_getElem?_getD, List.getElem?_set, List.getD_eq_getElem?_getD]
  by_cases e : i = j
  · subst e; simp [h]
  · simp [e]

/-! Which sign goes with which PDI. -/
def pstep (d : Int) (i : Nat) (s : List Nat × List Int) : List Nat × List Int :=
  if opensB d = true then (s.1 ++ [i], s.2.set i (-1))
  else if d = 10 then ([], s.2.set i (-1))
  else if d = 22 ∧ 0 < s.1.length then (s.1.take (s.1.length - 1), ((s.2.set i (-1)).set i (s.1.getD (s.1.length - 1) 0)).set (s.1.getD (s.1.length - 1) 0) i)
  else (s.1, s.2.set i (-1))
theorem pairsF_step (ds : List Int) (m i : Nat) (s : List Nat × List Int) : pairsF ds (m + 1) i s.1 s.2 = pairsF ds m (i + 1) (pstep (lkn (ith ds i)) i s).1 (pstep (lkn (ith ds i)) i s).2 := by
  rw [pairsF]
  unfold pstep
  split
  · rfl
  split
  · rfl
  split
  · rfl
  · rfl
structure PRel (n n0 L : Nat) (s t : List Nat × List Int) : Prop where
  opn : s.1 = t.1.map (phi n0 L)
  tl : t.2.length = n
  sl : s.2.length = n + L
  at' : ∀ p, p < n → ith s.2 (phi n0 L p) = phiZ n0 L (ith t.2 p)
  bd : ∀ q ∈ t.1, q < n
theorem phi_ltn {n n0 L p : Nat} (hp : p < n) : phi n0 L p < n + L := by unfold phi; split <;> omega
theorem set_rel {n n0 L : Nat} {s t : List Int} (tl : t.length = n) (sl : s.length = n + L) (h : ∀ p, p < n → ith s (phi n0 L p) = phiZ n0 L (ith t p)) (i : Nat) (hi : i < n) (v u : Int) (hv : u = phiZ n0 L v) :
    ∀ p, p < n → ith (s.set (phi n0 L i) u) (phi n0 L p) = phiZ n0 L (ith (t.set i v) p) := by
  intro p hp
  rw [ith_setQ _ _ _ _ (by rw [sl]; exact phi_ltn hi), ith_setQ _ _ _ _ (by omega)]
  by_cases e : i = p
  · subst e; rw [if_pos rfl, if_pos rfl, hv]
  · rw [if_neg (fun e' => e (phi_inj e')), if_neg e, h p hp]
theorem PRel.step {n n0 L : Nat} {s t : List Nat × List Int} (h : PRel n n0 L s t) (d : Int) (p : Nat) (hp : p < n) : PRel n n0 L (pstep d (phi n0 L p) s) (pstep d p t) := by
  have h1 := set_rel h.tl h.sl h.at' p hp (-1) (-1) (phiZ_neg n0 L).symm
  have hlen : s.1.length = t.1.length := by rw [h.opn, List.length_map]
  unfold pstep
  split
  · refine ⟨?_, by simp [h.tl], by simp [h.sl], h1, fun q hq => ?_⟩
    · show s.1 ++ [_] = (t.1 ++ [p]).map _
      rw [h.opn, List.map_append]; rfl
    · have hq : q ∈ t.1 ++ [p] := hq
      rw [List.mem_append, List.mem_singleton] at hq
      rcases hq with hq | hq
      · exact h.bd q hq
      · omega
  split
  · exact ⟨rfl, by simp [h.tl], by simp [h.sl], h1, fun q hq => by
      have hq : q ∈ ([] : List Nat) := hq
      simp at hq⟩
  rw [hlen]
  split
  · rename_i h22
    have hk : t.1.length - 1 < t.1.length := by omega
    have hmem : t.1.getD (t.1.length - 1) 0 ∈ t.1 := by
      rw [List.getD_eq_getElem?_getD, List.getElem?_eq_getElem hk]; exact List.getElem_mem hk
    have hkn := h.bd _ hmem
    have hge : s.1.getD (t.1.length - 1) 0 = phi n0 L (t.1.getD (t.1.length - 1) 0) := by
      rw [h.opn, List.getD_eq_getElem?_getD, List.getElem?_map, List.getD_eq_getElem?_getD, List.getElem?_eq_getElem hk]; rfl
    rw [hge]
    generalize t.1.getD (t.1.length - 1) 0 = k at *
    have h2 := set_rel (s := s.2.set (phi n0 L p) (-1)) (t := t.2.set p (-1)) (by rw [List.length_set]; exact h.tl) (by rw [List.length_set]; exact h.sl) h1 p hp (k : Int) ((phi n0 L k : Nat) : Int) (phiZ_nat n0 L k).symm
    have h3 := set_rel (by rw [List.length_set, List.length_set]; exact h.tl) (by rw [List.length_set, List.length_set]; exact h.sl) h2 k hkn (p : Int) ((phi n0 L p : Nat) : Int) (phiZ_nat n0 L p).symm
    refine ⟨?_, by simp [h.tl], by simp [h.sl], h3, fun q hq => h.bd q (List.mem_of_mem_take hq)⟩
    show s.1.take _ = (t.1.take _).map _
    rw [h.opn, List.map_take]
  · exact ⟨h.opn, by simp [h.tl], by simp [h.sl], h1, h.bd⟩
theorem pstep_quiet {d : Int} (h : Quiet d) (i : Nat) (s : List Nat × List Int) : pstep d i s = (s.1, s.2.set i (-1)) := by
  unfold pstep
  rw [h.opens, if_neg (by simp)]
  unfold Quiet at h
  rw [if_neg (by omega), if_neg (by omega)]
theorem PRel.inner {n n0 L : Nat} {s t : List Nat × List Int} (h : PRel n n0 L s t) (i : Nat) (h1 : n0 < i) (h2 : i ≤ n0 + L) (hn : n0 + 1 < n) : PRel n n0 L (s.1, s.2.set i (-1)) t :=
  ⟨h.opn, h.tl, by simp [h.sl], fun p hp => by
    rw [ith_setQ _ _ _ _ (by rw [h.sl]; omega), if_neg (fun e => phi_out h1 h2 e.symm)]
    exact h.at' p hp, h.bd⟩
theorem Iso.pairs_high {c f : List Int} {n0 L : Nat} (h : Iso c f n0 L) : ∀ (m p : Nat) (s t : List Nat × List Int), n0 < p → p + m = c.length → PRel c.length n0 L s t →
    ∀ q, q < c.length → ith (pairsF f m (p + L) s.1 s.2) (phi n0 L q) = phiZ n0 L (ith (pairsF c m p t.1 t.2) q)
  | 0, p, s, t, hp, hm, hr => hr.at'
  | m + 1, p, s, t, hp, hm, hr => by
    rw [pairsF_step, pairsF_step, h.high p hp, show p + L + 1 = (p + 1) + L by omega]
    have := hr.step (lkn (ith c p)) p (by omega)
    rw [phi_high hp] at this
    exact Iso.pairs_high h m (p + 1) _ _ (by omega) (by omega) this
theorem Iso.pairs_in {c f : List Int} {n0 L : Nat} (h : Iso c f n0 L) (m : Nat) (t : List Nat × List Int) : ∀ (k i : Nat) (s : List Nat × List Int), n0 < i → i + k = n0 + 1 + L → PRel c.length n0 L s t →
    ∃ s', PRel c.length n0 L s' t ∧ pairsF f (k + m) i s.1 s.2 = pairsF f m (n0 + 1 + L) s'.1 s'.2
  | 0, i, s, h1, h2, hr => ⟨s, hr, by rw [Nat.zero_add, show i = n0 + 1 + L by omega]⟩
  | k + 1, i, s, h1, h2, hr => by
    have hq := h.inn i h1 (by omega)
    rw [show k + 1 + m = (k + m) + 1 by omega, pairsF_step, hq.lkn, pstep_quiet hq]
    exact Iso.pairs_in h m t k (i + 1) _ (by omega) (by omega) (hr.inner i h1 (by omega) h.lt)
theorem Iso.pairs_low {c f : List Int} {n0 L : Nat} (h : Iso c f n0 L) : ∀ (m p : Nat) (s t : List Nat × List Int), p ≤ n0 → p + m = c.length → PRel c.length n0 L s t →
    ∀ q, q < c.length → ith (pairsF f (m + L) p s.1 s.2) (phi n0 L q) = phiZ n0 L (ith (pairsF c m p t.1 t.2) q)
  | 0, p, s, t, hp, hm, hr => by have := h.lt; omega
  | m + 1, p, s, t, hp, hm, hr => by
    rw [show m + 1 + L = (m + L) + 1 by omega, pairsF_step, pairsF_step, h.low p hp]
    have hs := hr.step (lkn (ith c p)) p (by omega)
    rw [phi_low hp] at hs
    rcases Nat.lt_or_ge p n0 with h' | h'
    · exact Iso.pairs_low h m (p + 1) _ _ (by omega) (by omega) hs
    · obtain rfl : p = n0 := by omega
      obtain ⟨s', hr', e⟩ := Iso.pairs_in h m _ L (p + 1) _ (by omega) (by omega) hs
      rw [show m + L = L + m by omega, e]
      exact Iso.pairs_high h m (p + 1) _ _ (by omega) (by omega) hr'
theorem ith_zeros (n j : Nat) : ith (List.replicate n 0) j = 0 := by
  unfold ith
  rw [List.getD_eq_getElem?_getD, List.getElem?_replicate]
  split <;> rfl
theorem Iso.pairs {c f : List Int} {n0 L : Nat} (h : Iso c f n0 L) (q : Nat) (hq : q < c.length) : ith (pairsI f) (phi n0 L q) = phiZ n0 L (ith (pairsI c) q) := by
  unfold pairsI
  rw [h.len]
  refine Iso.pairs_low h c.length 0 ([], List.replicate (c.length + L) 0) ([], List.replicate c.length 0) (by omega) (by omega) ⟨rfl, by simp, by simp, fun p hp => ?_, fun q hq => ?_⟩ q hq
  · rw [ith_zeros, ith_zeros]; unfold phiZ; rw [if_pos (by omega)]
  · have hq : q ∈ ([] : List Nat) := hq
    simp at hq
theorem pairsF_keep (ds : List Int) : ∀ (m i : Nat) (s : List Nat × List Int) (j : Nat), j < i → i + m ≤ s.2.length → j ∉ s.1 → (∀ q ∈ s.1, q < s.2.length) → ith (pairsF ds m i s.1 s.2) j = ith s.2 j
  | 0, i, s, j, h1, hl, h2, h3 => rfl
  | m + 1, i, s, j, h1, hl, h2, h3 => by
    rw [pairsF_step]
    have hkey : (pstep (lkn (ith ds i)) i s).2.length = s.2.length ∧ ith (pstep (lkn (ith ds i)) i s).2 j = ith s.2 j ∧ j ∉ (pstep (lkn (ith ds i)) i s).1 ∧ ∀ q ∈ (pstep (lkn (ith ds i)) i s).1, q < s.2.length := by
      have e1 : ith (s.2.set i (-1)) j = ith s.2 j := by rw [ith_setQ _ _ _ _ (by omega), if_neg (by omega)]
      unfold pstep
      split
      · refine ⟨by simp, e1, ?_, fun q hq => ?_⟩
        · show j ∉ s.1 ++ [i]
          rw [List.mem_append, List.mem_singleton]
          rintro (h | h)
          · exact h2 h
          · omega
        · have hq : q ∈ s.1 ++ [i] := hq
          rw [List.mem_append, List.mem_singleton] at hq
          rcases hq with hq | hq
          · exact h3 q hq
          · omega
      split
      · exact ⟨by simp, e1, by simp, fun q hq => by
          have hq : q ∈ ([] : List Nat) := hq
          simp at hq⟩
      split
      · rename_i h22
        have hk : s.1.length - 1 < s.1.length := by omega
        have hmem : s.1.getD (s.1.length - 1) 0 ∈ s.1 := by
          rw [List.getD_eq_getElem?_getD, List.getElem?_eq_getElem hk]; exact List.getElem_mem hk
        generalize s.1.getD (s.1.length - 1) 0 = k at *
        have hkl := h3 k hmem
        refine ⟨by simp, ?_, fun h => h2 (List.mem_of_mem_take h), fun q hq => h3 q (List.mem_of_mem_take hq)⟩
        show ith (((s.2.set i (-1)).set i _).set k _) j = _
        rw [ith_setQ _ _ _ _ (by simpa using hkl), if_neg (fun e => h2 (by rw [← e]; exact hmem)), ith_setQ _ _ _ _ (by rw [List.length_set]; omega), if_neg (by omega)]
        exact e1
      · exact ⟨by simp, e1, h2, h3⟩
    rw [pairsF_keep ds m (i + 1) _ j (by omega) (by rw [hkey.1]; omega) hkey.2.2.1 (by rw [hkey.1]; exact hkey.2.2.2)]
    exact hkey.2.1
theorem pairs_at (c : List Int) : ∀ k, k ≤ c.length → ∃ s : List Nat × List Int, pairsI c = pairsF c (c.length - k) k s.1 s.2 ∧ (∀ q ∈ s.1, q < k) ∧ s.2.length = c.length
  | 0, _ => ⟨([], List.replicate c.length 0), rfl, fun q hq => by
      have hq : q ∈ ([] : List Nat) := hq
      simp at hq, by simp⟩
  | k + 1, hk => by
    obtain ⟨s, h1, h2, h3⟩ := pairs_at c k (by omega)
    refine ⟨pstep (lkn (ith c k)) k s, ?_, ?_⟩
    · rw [h1, show c.length - k = (c.length - (k + 1)) + 1 by omega, pairsF_step]
    · unfold pstep
      split
      · refine ⟨fun q hq => ?_, by simp [h3]⟩
        have hq : q ∈ s.1 ++ [k] := hq
        rw [List.mem_append, List.mem_singleton] at hq
        rcases hq with hq | hq
        · have := h2 q hq; omega
        · omega
      split
      · exact ⟨fun q hq => by
          have hq : q ∈ ([] : List Nat) := hq
          simp at hq, by simp [h3]⟩
      split
      · exact ⟨fun q hq => by have := h2 q (List.mem_of_mem_take hq); omega, by simp [h3]⟩
      · exact ⟨fun q hq => by have := h2 q hq; omega, by simp [h3]⟩
theorem Iso.pair_own {c f : List Int} {n0 L : Nat} (h : Iso c f n0 L) : ith (pairsI c) n0 = ((n0 + 1 : Nat) : Int) ∧ ith (pairsI c) (n0 + 1) = (n0 : Int) := by
  have hlt := h.lt
  obtain ⟨s, h1, h2, h3⟩ := pairs_at c n0 (by omega)
  have hs := h.sign
  have e1 : pstep (lkn (ith c n0)) n0 s = (s.1 ++ [n0], s.2.set n0 (-1)) := by
    unfold pstep
    rw [sign_lkn hs, sign_opens hs, if_pos rfl]
  have e2 : pstep (lkn (ith c (n0 + 1))) (n0 + 1) (s.1 ++ [n0], s.2.set n0 (-1)) = (s.1, (((s.2.set n0 (-1)).set (n0 + 1) (-1)).set (n0 + 1) (n0 : Int)).set n0 ((n0 + 1 : Nat) : Int)) := by
    unfold pstep
    simp only
    have e4 : (s.1 ++ [n0]).length - 1 = s.1.length := by simp
    have e5 : (s.1 ++ [n0]).getD s.1.length 0 = n0 := by rw [getD_snoc, if_neg (by omega), if_pos rfl]
    have e6 : (s.1 ++ [n0]).take s.1.length = s.1 := by rw [List.take_left']; rfl
    rw [h.pdi, lkn22, opens22, if_neg (by simp), if_neg (by omega), if_pos ⟨rfl, by simp⟩, e4, e5, e6]
  have e3 : pairsI c = pairsF c (c.length - (n0 + 2)) (n0 + 2) s.1 ((((s.2.set n0 (-1)).set (n0 + 1) (-1)).set (n0 + 1) (n0 : Int)).set n0 ((n0 + 1 : Nat) : Int)) := by
    rw [h1, show c.length - n0 = (c.length - (n0 + 2)) + 1 + 1 by omega, pairsF_step, e1, pairsF_step c _ (n0 + 1) (s.1 ++ [n0], s.2.set n0 (-1)), e2]
  have keep := fun j (hj : j < n0 + 2) (hn : j ∉ s.1) => pairsF_keep c (c.length - (n0 + 2)) (n0 + 2) (s.1, (((s.2.set n0 (-1)).set (n0 + 1) (-1)).set (n0 + 1) (n0 : Int)).set n0 ((n0 + 1 : Nat) : Int)) j hj (by simp [h3]; omega) hn (fun q hq => by have := h2 q hq; simp [h3]; omega)
  have hn0 : n0 ∉ s.1 := fun hm => by have := h2 n0 hm; omega
  have hn1 : n0 + 1 ∉ s.1 := fun hm => by have := h2 _ hm; omega
  rw [e3]
  refine ⟨(keep n0 (by omega) hn0).trans ?_, (keep (n0 + 1) (by omega) hn1).trans ?_⟩
  · show ith (List.set _ n0 _) n0 = _
    rw [ith_setQ _ _ _ _ (by simp [h3]; omega), if_pos rfl]
  · show ith (List.set _ n0 _) (n0 + 1) = _
    rw [ith_setQ _ _ _ _ (by simp [h3]; omega), if_neg (by omega), ith_setQ _ _ _ _ (by simp [h3]; omega), if_pos rfl]

/-! The runs. -/
def runAt (ds ls ps : List Int) : Nat → RSt
  | 0 => ⟨[], [], -1, -1⟩
  | i + 1 => (runAt ds ls ps i).step ds ls ps i
theorem runAt_ok (ds ls ps : List Int) : ∀ i, (runAt ds ls ps i).Ok i
  | 0 => RSt.start_ok
  | i + 1 => (runAt_ok ds ls ps i).step ds ls ps
theorem runsF_at (ds ls ps : List Int) : ∀ (m i : Nat), runsF ds ls ps m i (runAt ds ls ps i) = runAt ds ls ps (i + m)
  | 0, i => rfl
  | m + 1, i => by
    rw [runsF, show i + (m + 1) = (i + 1) + m by omega]
    exact runsF_at ds ls ps m (i + 1)
theorem runsI_at (ds ls : List Int) (hl : ls.length = ds.length) : runsI ds ls = (runAt ds ls (pairsI ds) ds.length).out := by
  unfold runsI
  simp only
  rw [hl, Nat.min_self, List.take_of_length_le (Nat.le_refl _)]
  have := runsF_at ds ls (pairsI ds) ds.length 0
  rw [Nat.zero_add] at this
  exact congrArg RSt.out this
def psi (K X k : Nat) : Nat := if k < K then k else k + X
def psiZ (K X : Nat) (x : Int) : Int := if x < (K : Int) then x else x + X
theorem psi_inj {K X k j : Nat} (h : psi K X k = psi K X j) : k = j := by unfold psi at h; split at h <;> split at h <;> omega
theorem psiZ_sign (K X : Nat) (x : Int) : psiZ K X x < 0 ↔ x < 0 := by unfold psiZ; split <;> omega
theorem psiZ_nat (K X k : Nat) : psiZ K X (k : Int) = ((psi K X k : Nat) : Int) := by unfold psiZ psi; split <;> split <;> omega
structure RRel (n0 L K X : Nat) (s t : RSt) : Prop where
  len : s.out.length = t.out.length + X
  kl : K ≤ t.out.length
  at' : ∀ k, k < t.out.length → s.out.getD (psi K X k) [] = (t.out.getD k []).map (phi n0 L)
  inn : ∀ k, K ≤ k → k < K + X → ∀ p ∈ s.out.getD k [], n0 < p ∧ p ≤ n0 + L
  now : s.now = psiZ K X t.now
  last : s.last = phiZ n0 L t.last
  goes : s.goes = t.goes.map (fun x => (phi n0 L x.1, psi K X x.2))
/-- how a list of lists looks behind a put -/
theorem put_getD (s : RSt) (k i : Nat) (last : Int) (g : List (Nat × Nat)) (hk : k ≤ s.out.length) (j : Nat) :
    (s.put k i last g).out.getD j [] = if j = k then s.out.getD k [] ++ [i] else s.out.getD j [] := by
  unfold RSt.put
  simp only
  split
  · rename_i h
    rw [List.getD_eq_getElem?_getD, List.getElem?_set]
    by_cases e : k = j
    · subst e; rw [if_pos rfl, if_pos h, if_pos rfl]; rfl
    · rw [if_neg e, if_neg (fun e' => e e'.symm), List.getD_eq_getElem?_getD]
  · rename_i h
    have hke : k = s.out.length := by omega
    rw [getD_snoc]
    have e0 : s.out.getD k [] = [] := by rw [List.getD_eq_getElem?_getD, List.getElem?_eq_none (by omega)]; rfl
    split
    · rw [if_neg (by omega)]
    split
    · rename_i h2; rw [if_pos (by omega), e0]; rfl
    · rename_i h1 h2
      rw [if_neg (by omega), List.getD_eq_getElem?_getD, List.getElem?_eq_none (by omega)]; rfl
theorem put_len (s : RSt) (k i : Nat) (last : Int) (g : List (Nat × Nat)) (hk : k ≤ s.out.length) : (s.put k i last g).out.length = if k < s.out.length then s.out.length else s.out.length + 1 := by
  unfold RSt.put
  simp only
  split <;> simp
theorem RRel.put {n0 L K X : Nat} {s t : RSt} (h : RRel n0 L K X s t) (k p : Nat) (hk : k ≤ t.out.length) (la : Int) (g1 g2 : List (Nat × Nat)) (hg : g1 = g2.map (fun x => (phi n0 L x.1, psi K X x.2))) (lf : Int) (hl : lf = phiZ n0 L la) :
    RRel n0 L K X (s.put (psi K X k) (phi n0 L p) lf g1) (t.put k p la g2) := by
  have hlen := h.len
  have hK := h.kl
  have hks : psi K X k ≤ s.out.length := by unfold psi; split <;> omega
  have hlt : psi K X k < s.out.length ↔ k < t.out.length := by unfold psi; split <;> omega
  refine ⟨?_, ?_, fun j hj => ?_, fun j h1 h2 => ?_, (psiZ_nat K X k).symm, hl, hg⟩
  · rw [put_len _ _ _ _ _ hks, put_len _ _ _ _ _ hk]
    by_cases e : k < t.out.length
    · rw [if_pos e, if_pos (hlt.2 e)]; exact hlen
    · rw [if_neg e, if_neg (fun e' => e (hlt.1 e'))]; omega
  · rw [put_len _ _ _ _ _ hk]; split <;> omega
  · rw [put_len _ _ _ _ _ hk] at hj
    rw [put_getD _ _ _ _ _ hks, put_getD _ _ _ _ _ hk]
    by_cases e : j = k
    · subst e
      rw [if_pos rfl, if_pos rfl, List.map_append]
      rcases Nat.lt_or_ge j t.out.length with h' | h'
      · rw [h.at' j h']; rfl
      · have e0 : t.out.getD j [] = [] := by rw [List.getD_eq_getElem?_getD, List.getElem?_eq_none (by omega)]; rfl
        have e1 : s.out.getD (psi K X j) [] = [] := by rw [List.getD_eq_getElem?_getD, List.getElem?_eq_none (by unfold psi; split <;> omega)]; rfl
        rw [e0, e1]; rfl
    · rw [if_neg (fun e' => e (psi_inj e')), if_neg e]
      exact h.at' j (by split at hj <;> omega)
  · rw [put_getD _ _ _ _ _ hks, if_neg (by unfold psi; split <;> omega)]
    exact h.inn j h1 h2
theorem getLastD_map0 (n0 L : Nat) (l : List Nat) : (l.map (phi n0 L)).getLastD 0 = phi n0 L (l.getLastD 0) := by
  rw [List.getLastD_eq_getLast?, List.getLastD_eq_getLast?, List.getLast?_map]
  cases l.getLast? with
  | none => exact (phi_low (Nat.zero_le _)).symm
  | some x => rfl
theorem RRel.find {n0 L K X : Nat} {s t : RSt} (h : RRel n0 L K X s t) (p : Nat) : s.find (phi n0 L p) = (t.find p).map (psi K X) := by
  unfold RSt.find
  rw [h.goes, List.find?_map]
  have e : ((fun x => x.1 == phi n0 L p) ∘ fun (x : Nat × Nat) => (phi n0 L x.1, psi K X x.2)) = fun x => x.1 == p := by
    funext x
    show (phi n0 L x.1 == phi n0 L p) = (x.1 == p)
    rw [Bool.eq_iff_iff, beq_iff_eq, beq_iff_eq]
    exact ⟨phi_inj, fun e => by rw [e]⟩
  rw [e]
  cases t.goes.find? (fun x => x.1 == p) <;> rfl
/-- what is needed of the two lines -/
structure RCtx (c f lsc lsf psc psf : List Int) (n0 L : Nat) : Prop where
  iso : Iso c f n0 L
  ls : ∀ p, p < c.length → ith lsf (phi n0 L p) = ith lsc p
  ps : ∀ p, p < c.length → ith psf (phi n0 L p) = phiZ n0 L (ith psc p)
  lv : ith lsc (n0 + 1) = ith lsc n0
  li : ∀ i, n0 < i → i ≤ n0 + L → ith lsc n0 < ith lsf i
  p0 : ith psc n0 = ((n0 + 1 : Nat) : Int)
  p1 : ith psc (n0 + 1) = (n0 : Int)
theorem RRel.at_ {n0 L K X i : Nat} {s t : RSt} (h : RRel n0 L K X s t) (ht : t.Ok i) (psc psf : List Int) (p : Nat) (hps : ith psf (phi n0 L p) = phiZ n0 L (ith psc p)) : s.at psf (phi n0 L p) = (t.at psc p).map (psi K X) := by
  unfold RSt.at
  rw [h.find p]
  cases hx : t.find p with
  | none => rfl
  | some k =>
    have hk := ht.find_lt hx
    simp only [Option.map_some]
    rw [h.at' k hk, getLastD_map0, hps, ← phiZ_nat]
    by_cases e : (((t.out.getD k []).getLastD 0 : Nat) : Int) = ith psc p
    · rw [e, if_neg (by simp), if_neg (by simp)]; rfl
    · rw [if_pos (fun e' => e (phiZ_inj e')), if_pos e]; rfl
theorem RRel.pick {c f lsc lsf psc psf : List Int} {n0 L : Nat} (hc : RCtx c f lsc lsf psc psf n0 L) {K X p : Nat} {s t : RSt} (h : RRel n0 L K X s t) (ht : t.Ok p) (hp : p < c.length) :
    s.pick lsf psf (phi n0 L p) = psi K X (t.pick lsc psc p) := by
  have hat := h.at_ ht psc psf p (hc.ps p hp)
  have hn0 := ht.now0
  have hl1 := ht.last1
  unfold RSt.pick
  rw [hat, hc.ls p hp, h.now, h.last]
  by_cases h1 : t.now < 0
  · rw [if_pos (.inl ((psiZ_sign K X _).2 h1)), if_pos (.inl h1)]
    cases t.at psc p with
    | some k => rfl
    | none => show s.out.length = psi K X t.out.length; rw [h.len]; have := h.kl; unfold psi; rw [if_neg (by omega)]
  by_cases h2 : t.last < 0
  · rw [if_pos (.inr (.inl ((phiZ_sign n0 L _).2 h2))), if_pos (.inr (.inl h2))]
    cases t.at psc p with
    | some k => rfl
    | none => show s.out.length = psi K X t.out.length; rw [h.len]; have := h.kl; unfold psi; rw [if_neg (by omega)]
  obtain ⟨q, hq⟩ : ∃ q : Nat, t.last = (q : Int) := ⟨t.last.toNat, by omega⟩
  obtain ⟨k, hk⟩ : ∃ k : Nat, t.now = (k : Int) := ⟨t.now.toNat, by omega⟩
  rw [hq, hk, phiZ_nat, psiZ_nat, Int.toNat_natCast, Int.toNat_natCast, hc.ls q (by omega)]
  by_cases h3 : ith lsc q ≠ ith lsc p
  · rw [if_pos (.inr (.inr h3)), if_pos (.inr (.inr h3))]
    cases t.at psc p with
    | some k => rfl
    | none => show s.out.length = psi K X t.out.length; rw [h.len]; have := h.kl; unfold psi; rw [if_neg (by omega)]
  · rw [if_neg (by rintro (h | h | h); omega; omega; exact h3 h), if_neg (by rintro (h | h | h); omega; omega; exact h3 h)]
    rfl
theorem RRel.gone {c f lsc lsf psc psf : List Int} {n0 L : Nat} (hc : RCtx c f lsc lsf psc psf n0 L) {K X p : Nat} {s t : RSt} (h : RRel n0 L K X s t) (hp : p < c.length) (k : Nat) :
    s.gone f psf (phi n0 L p) (psi K X k) = (t.gone c psc p k).map (fun x => (phi n0 L x.1, psi K X x.2)) := by
  unfold RSt.gone
  rw [hc.iso.at', hc.ps p hp]
  by_cases h1 : opensB (lkn (ith c p)) = true ∧ 0 ≤ ith psc p
  · have h2 : 0 ≤ phiZ n0 L (ith psc p) := by have := phiZ_sign n0 L (ith psc p); omega
    obtain ⟨q, hq⟩ : ∃ q : Nat, ith psc p = (q : Int) := ⟨(ith psc p).toNat, by omega⟩
    rw [if_pos ⟨h1.1, h2⟩, if_pos h1, hq, phiZ_nat, Int.toNat_natCast, Int.toNat_natCast, List.map_cons, h.goes]
  · rw [if_neg h1, if_neg (fun h2 => h1 ⟨h2.1, by have := phiZ_sign n0 L (ith psc p); omega⟩), h.goes]
theorem RRel.step {c f lsc lsf psc psf : List Int} {n0 L : Nat} (hc : RCtx c f lsc lsf psc psf n0 L) {K X p : Nat} {s t : RSt} (h : RRel n0 L K X s t) (ht : t.Ok p) (hs : s.Ok (phi n0 L p)) (hp : p < c.length) :
    RRel n0 L K X (s.step f lsf psf (phi n0 L p)) (t.step c lsc psc p) := by
  rw [hs.step_put, ht.step_put, hc.iso.at']
  split
  · exact h
  · rw [h.pick hc ht hp, h.gone hc hp]
    refine h.put _ p (ht.pick_le lsc psc) _ _ _ rfl _ ?_
    split
    · exact (phiZ_neg n0 L).symm
    · exact (phiZ_nat n0 L p).symm
/-- within the isolate -/
structure IRel (n0 L X : Nat) (s t : RSt) : Prop where
  len : s.out.length = t.out.length + X
  at' : ∀ k, k < t.out.length → s.out.getD k [] = (t.out.getD k []).map (phi n0 L)
  inn : ∀ k, t.out.length ≤ k → k < t.out.length + X → ∀ p ∈ s.out.getD k [], n0 < p ∧ p ≤ n0 + L
  goes : s.goes = t.goes.map (fun x => (phi n0 L x.1, x.2))
  here : (X = 0 ∧ s.now = t.now ∧ s.last = (n0 : Int)) ∨ ((t.out.length : Int) ≤ s.now ∧ ∃ q : Nat, s.last = (q : Int) ∧ n0 < q ∧ q ≤ n0 + L)
theorem IRel.find {n0 L X : Nat} {s t : RSt} (h : IRel n0 L X s t) (i : Nat) (h1 : n0 < i) (h2 : i ≤ n0 + L) : s.find i = none := by
  unfold RSt.find
  rw [h.goes, List.find?_map]
  have e : ((fun x => x.1 == i) ∘ fun (x : Nat × Nat) => (phi n0 L x.1, x.2)) = fun _ => false := by
    funext x
    show (phi n0 L x.1 == i) = false
    rw [beq_eq_false_iff_ne]
    exact phi_out h1 h2
  rw [e]
  simp
theorem IRel.put {n0 L X : Nat} {s t : RSt} (h : IRel n0 L X s t) (k i : Nat) (hk1 : t.out.length ≤ k) (hk2 : k ≤ s.out.length) (h1 : n0 < i) (h2 : i ≤ n0 + L) (g : List (Nat × Nat)) (hg : g = s.goes) :
    ∃ X', IRel n0 L X' (s.put k i (i : Int) g) t := by
  have hlen := h.len
  refine ⟨if k < s.out.length then X else X + 1, ?_, fun j hj => ?_, fun j j1 j2 p hp => ?_, hg.trans h.goes, .inr ⟨by show ((t.out.length : Nat) : Int) ≤ (k : Int); omega, i, rfl, h1, h2⟩⟩
  · rw [put_len _ _ _ _ _ hk2]; split <;> omega
  · rw [put_getD _ _ _ _ _ hk2, if_neg (by omega)]; exact h.at' j hj
  · rw [put_getD _ _ _ _ _ hk2] at hp
    by_cases e : j = k
    · subst e
      rw [if_pos rfl, List.mem_append, List.mem_singleton] at hp
      rcases hp with hp | hp
      · rcases Nat.lt_or_ge j s.out.length with h' | h'
        · exact h.inn j j1 (by omega) p hp
        · rw [List.getD_eq_getElem?_getD, List.getElem?_eq_none (by omega)] at hp; simp at hp
      · omega
    · rw [if_neg e] at hp
      exact h.inn j j1 (by split at j2 <;> omega) p hp
theorem IRel.step {c f lsc lsf psc psf : List Int} {n0 L : Nat} (hc : RCtx c f lsc lsf psc psf n0 L) {X i : Nat} {s t : RSt} (h : IRel n0 L X s t) (hs : s.Ok i) (h1 : n0 < i) (h2 : i ≤ n0 + L) (hn : 0 ≤ t.now) :
    ∃ X', IRel n0 L X' (s.step f lsf psf i) t := by
  have hq := hc.iso.inn i h1 h2
  have hlt := hc.iso.lt
  have hlen := h.len
  rw [hs.step_put]
  split
  · exact ⟨X, h⟩
  · have hg : s.gone f psf i (s.pick lsf psf i) = s.goes := by
      unfold RSt.gone
      rw [hq.lkn, hq.opens, if_neg (by simp)]
    have hl : (if lkn (ith f i) = 10 then (-1 : Int) else (i : Int)) = (i : Int) := by
      rw [hq.lkn]; unfold Quiet at hq; rw [if_neg (by omega)]
    rw [hg, hl]
    refine h.put _ i ?_ (hs.pick_le lsf psf) h1 h2 _ rfl
    have hat : (s.at psf i).getD s.out.length = s.out.length := by unfold RSt.at; rw [h.find i h1 h2]; rfl
    unfold RSt.pick
    rcases h.here with ⟨hX, hnow, hlast⟩ | ⟨hnow, q, hlast, hq1, hq2⟩
    · have e0 : ith lsf n0 = ith lsc n0 := by have := hc.ls n0 (by omega); rwa [phi_low (Nat.le_refl _)] at this
      have hli := hc.li i h1 h2
      rw [if_pos (.inr (.inr (by rw [hlast, Int.toNat_natCast, e0]; omega))), hat]; omega
    · split
      · rw [hat]; omega
      · omega
/-- the PDI's run is the sign's -/
theorem IRel.pdi {c f lsc lsf psc psf : List Int} {n0 L : Nat} (hc : RCtx c f lsc lsf psc psf n0 L) {X : Nat} {s t : RSt} (h : IRel n0 L X s t) (hs : s.Ok (n0 + 1 + L)) (ht : t.Ok (n0 + 1)) (k0 : Nat) (hk0 : k0 < t.out.length) (hnow : t.now = (k0 : Int)) (hlast : t.last = (n0 : Int))
    (hgo : ∃ g, t.goes = (n0 + 1, k0) :: g) (hl0 : (t.out.getD k0 []).getLastD 0 = n0) :
    RRel n0 L t.out.length X (s.step f lsf psf (n0 + 1 + L)) (t.step c lsc psc (n0 + 1)) ∧ t.step c lsc psc (n0 + 1) = t.put k0 (n0 + 1) ((n0 + 1 : Nat) : Int) t.goes := by
  have hlt := hc.iso.lt
  have e0 : ith lsf n0 = ith lsc n0 := by have := hc.ls n0 (by omega); rwa [phi_low (Nat.le_refl _)] at this
  have e1 : ith lsf (n0 + 1 + L) = ith lsc (n0 + 1) := by have := hc.ls (n0 + 1) (by omega); rwa [phi_high (by omega)] at this
  have e2 : ith psf (n0 + 1 + L) = (n0 : Int) := by have := hc.ps (n0 + 1) (by omega); rwa [phi_high (by omega), hc.p1, phiZ_nat, phi_low (Nat.le_refl _)] at this
  have ht1 : t.pick lsc psc (n0 + 1) = k0 := by
    unfold RSt.pick
    rw [hnow, hlast, Int.toNat_natCast, Int.toNat_natCast, hc.lv, if_neg (by omega)]
  have hs1 : s.pick lsf psf (n0 + 1 + L) = k0 := by
    have hfind : s.find (n0 + 1 + L) = some k0 := by
      unfold RSt.find
      obtain ⟨g, hg⟩ := hgo
      rw [h.goes, hg, List.map_cons, List.find?_cons]
      have : (phi n0 L (n0 + 1) == n0 + 1 + L) = true := by rw [phi_high (by omega), beq_iff_eq]
      simp only [this]
      rfl
    have hat : s.at psf (n0 + 1 + L) = some k0 := by
      unfold RSt.at
      rw [hfind]
      simp only
      rw [h.at' k0 hk0, getLastD_map0, hl0, phi_low (Nat.le_refl _), e2, if_neg (by simp)]
    unfold RSt.pick
    rcases h.here with ⟨hX, hn, hl⟩ | ⟨hn, q, hl, hq1, hq2⟩
    · rw [hn, hl, hnow, Int.toNat_natCast, Int.toNat_natCast, e0, e1, hc.lv, if_neg (by omega)]
    · have := hc.li q hq1 hq2
      have hne : ith lsf s.last.toNat ≠ ith lsf (n0 + 1 + L) := by rw [hl, Int.toNat_natCast, e1, hc.lv]; omega
      rw [if_pos (.inr (.inr hne)), hat]; rfl
  have hleft : leftB (lkn (ith c (n0 + 1))) = false := by rw [hc.iso.pdi]; rfl
  have hgt : t.gone c psc (n0 + 1) k0 = t.goes := by unfold RSt.gone; rw [hc.iso.pdi, lkn22, opens22, if_neg (by simp)]
  have hgs : s.gone f psf (n0 + 1 + L) k0 = s.goes := by unfold RSt.gone; rw [hc.iso.fpdi, lkn22, opens22, if_neg (by simp)]
  have hst : t.step c lsc psc (n0 + 1) = t.put k0 (n0 + 1) ((n0 + 1 : Nat) : Int) t.goes := by
    rw [ht.step_put, if_neg (by rw [hleft]; simp), ht1, hgt, hc.iso.pdi, lkn22, if_neg (by omega)]
  have hss : s.step f lsf psf (n0 + 1 + L) = s.put k0 (n0 + 1 + L) ((n0 + 1 + L : Nat) : Int) s.goes := by
    rw [hs.step_put, hc.iso.fpdi, lkn22, if_neg (by decide), hs1, hgs, if_neg (by omega)]
  refine ⟨?_, hst⟩
  rw [hst, hss]
  have hlen := h.len
  have hps : psi t.out.length X k0 = k0 := by unfold psi; rw [if_pos hk0]
  refine ⟨?_, ?_, fun k hk => ?_, fun k h1 h2 => ?_, ?_, ?_, ?_⟩
  · rw [put_len _ _ _ _ _ (by omega), put_len _ _ _ _ _ (by omega), if_pos hk0, if_pos (by omega)]; exact hlen
  · rw [put_len _ _ _ _ _ (by omega), if_pos hk0]; exact Nat.le_refl _
  · rw [put_len _ _ _ _ _ (by omega), if_pos hk0] at hk
    have hpk : psi t.out.length X k = k := by unfold psi; rw [if_pos hk]
    rw [hpk, put_getD _ _ _ _ _ (by omega), put_getD _ _ _ _ _ (by omega)]
    split
    · rw [List.map_append, h.at' k0 hk0]
      show _ = _ ++ [phi n0 L (n0 + 1)]
      rw [phi_high (by omega)]
    · exact h.at' k hk
  · rw [put_getD _ _ _ _ _ (by omega), if_neg (by omega)]
    exact h.inn k h1 h2
  · show ((k0 : Nat) : Int) = psiZ t.out.length X ((k0 : Nat) : Int)
    rw [psiZ_nat, hps]
  · show ((n0 + 1 + L : Nat) : Int) = phiZ n0 L ((n0 + 1 : Nat) : Int)
    rw [phiZ_nat, phi_high (by omega)]
  · show s.goes = _
    rw [h.goes]
    refine List.map_congr_left fun x hx => ?_
    have := ht.goes x hx
    show (_, _) = (_, _)
    unfold psi
    rw [if_pos this]
/-- no run begins with the PDI, none ends with the sign -/
def Whole (n0 : Nat) (t : RSt) : Prop := ∀ k, k < t.out.length → (t.out.getD k []).getD 0 0 ≠ n0 + 1 ∧ (t.out.getD k []).getLastD 0 ≠ n0
theorem Whole.put {n0 i : Nat} {t : RSt} (h : Whole n0 t) (ht : t.Ok i) (k p : Nat) (hk : k ≤ t.out.length) (h1 : p ≠ n0) (h2 : p ≠ n0 + 1) (la : Int) (g : List (Nat × Nat)) : Whole n0 (t.put k p la g) := by
  intro j hj
  rw [put_len _ _ _ _ _ hk] at hj
  rw [put_getD _ _ _ _ _ hk]
  split
  · rename_i e
    subst e
    refine ⟨?_, by rw [List.getLastD_eq_getLast?, List.getLast?_append]; simpa using h1⟩
    rcases Nat.lt_or_ge j t.out.length with h' | h'
    · have hne := (ht.run j h').1
      have := (h j h').1
      cases hl : t.out.getD j [] with
      | nil => exact absurd hl hne
      | cons x xs => rw [hl] at this; simpa using this
    · rw [List.getD_eq_getElem?_getD (l := t.out), List.getElem?_eq_none (by omega)]
      simpa using h2
  · exact h j (by split at hj <;> omega)
theorem RCtx.low {c f lsc lsf psc psf : List Int} {n0 L : Nat} (hc : RCtx c f lsc lsf psc psf n0 L) : ∀ i, i ≤ n0 + 1 → RRel n0 L 0 0 (runAt f lsf psf i) (runAt c lsc psc i)
  | 0, _ => ⟨rfl, Nat.le_refl _, fun k hk => absurd hk (by simp [runAt]), fun k h1 h2 => by omega, rfl, (phiZ_neg n0 L).symm, rfl⟩
  | i + 1, hi => by
    have hlt := hc.iso.lt
    have hs := runAt_ok f lsf psf i
    have := (hc.low i (by omega)).step hc (runAt_ok c lsc psc i) (by rw [phi_low (by omega)]; exact hs) (by omega)
    rw [phi_low (by omega)] at this
    exact this
/-- behind the sign -/
theorem RCtx.sign {c f lsc lsf psc psf : List Int} {n0 L : Nat} (hc : RCtx c f lsc lsf psc psf n0 L) : ∃ (k0 : Nat) (g : List (Nat × Nat)), k0 ≤ (runAt c lsc psc n0).out.length ∧ runAt c lsc psc (n0 + 1) = (runAt c lsc psc n0).put k0 n0 (n0 : Int) ((n0 + 1, k0) :: g) := by
  have ht := runAt_ok c lsc psc n0
  have hs := hc.iso.sign
  refine ⟨(runAt c lsc psc n0).pick lsc psc n0, (runAt c lsc psc n0).goes, ht.pick_le _ _, ?_⟩
  have hl : leftB (lkn (ith c n0)) = false := by
    rw [sign_lkn hs]
    unfold leftB
    simp only [Bool.or_eq_false_iff, Bool.and_eq_false_iff, decide_eq_false_iff_not]
    omega
  rw [runAt, ht.step_put, hl, if_neg (by simp)]
  congr 1
  · rw [sign_lkn hs, if_neg (by omega)]
  · unfold RSt.gone
    rw [sign_lkn hs, sign_opens hs, hc.p0, if_pos ⟨rfl, by omega⟩, Int.toNat_natCast]
theorem RCtx.inner {c f lsc lsf psc psf : List Int} {n0 L : Nat} (hc : RCtx c f lsc lsf psc psf n0 L) (h0 : 0 ≤ (runAt c lsc psc (n0 + 1)).now) (hl : (runAt c lsc psc (n0 + 1)).last = (n0 : Int)) : ∀ k, k ≤ L → ∃ X, IRel n0 L X (runAt f lsf psf (n0 + 1 + k)) (runAt c lsc psc (n0 + 1))
  | 0, _ => by
    have h := hc.low (n0 + 1) (Nat.le_refl _)
    have hp : ∀ k, psi 0 0 k = k := fun k => by unfold psi; split <;> omega
    refine ⟨0, h.len, fun k hk => ?_, fun k h1 h2 => by omega, ?_, .inl ⟨rfl, ?_, ?_⟩⟩
    · have := h.at' k hk; rwa [hp] at this
    · have := h.goes
      simp only [hp] at this
      exact this
    · have := h.now
      unfold psiZ at this
      rw [if_neg (by omega)] at this
      simpa using this
    · have := h.last; rwa [hl, phiZ_nat, phi_low (Nat.le_refl _)] at this
  | k + 1, hk => by
    obtain ⟨X, h⟩ := hc.inner h0 hl k (by omega)
    have h1 : n0 < n0 + 1 + k := by omega
    have h2 : n0 + 1 + k ≤ n0 + L := by omega
    have := h.step hc (runAt_ok f lsf psf (n0 + 1 + k)) h1 h2 h0
    exact this
theorem RCtx.runs {c f lsc lsf psc psf : List Int} {n0 L : Nat} (hc : RCtx c f lsc lsf psc psf n0 L) : ∃ K X, ∀ i, n0 + 2 ≤ i → i ≤ c.length → RRel n0 L K X (runAt f lsf psf (i + L)) (runAt c lsc psc i) ∧ Whole n0 (runAt c lsc psc i) := by
  obtain ⟨k0, g, hk0, ht1⟩ := hc.sign
  have hok := runAt_ok c lsc psc n0
  have hok1 := runAt_ok c lsc psc (n0 + 1)
  have hnow : (runAt c lsc psc (n0 + 1)).now = (k0 : Int) := by rw [ht1]; rfl
  have hlast : (runAt c lsc psc (n0 + 1)).last = (n0 : Int) := by rw [ht1]; rfl
  have hlt1 : k0 < (runAt c lsc psc (n0 + 1)).out.length := by rw [ht1, put_len _ _ _ _ _ hk0]; split <;> omega
  have hg1 : ∃ g, (runAt c lsc psc (n0 + 1)).goes = (n0 + 1, k0) :: g := ⟨g, by rw [ht1]; rfl⟩
  have hrun : (runAt c lsc psc (n0 + 1)).out.getD k0 [] = (runAt c lsc psc n0).out.getD k0 [] ++ [n0] := by rw [ht1, put_getD _ _ _ _ _ hk0, if_pos rfl]
  have hl0 : ((runAt c lsc psc (n0 + 1)).out.getD k0 []).getLastD 0 = n0 := by rw [hrun]; simp
  obtain ⟨X, hi⟩ := hc.inner (by rw [hnow]; omega) hlast L (Nat.le_refl _)
  obtain ⟨hr, hst⟩ := hi.pdi hc (runAt_ok f lsf psf (n0 + 1 + L)) hok1 k0 hlt1 hnow hlast hg1 hl0
  refine ⟨(runAt c lsc psc (n0 + 1)).out.length, X, fun i h1 h2 => ?_⟩
  obtain ⟨m, rfl⟩ : ∃ m, i = n0 + 2 + m := ⟨i - (n0 + 2), by omega⟩
  clear h1
  induction m with
  | zero =>
    refine ⟨by rw [show n0 + 2 + 0 + L = (n0 + 1 + L) + 1 by omega]; exact hr, ?_⟩
    show Whole n0 (runAt c lsc psc ((n0 + 1) + 1))
    rw [runAt, hst]
    intro k hk
    rw [put_len _ _ _ _ _ (by omega), if_pos hlt1] at hk
    rw [put_getD _ _ _ _ _ (by omega)]
    split
    · rename_i e
      rw [hrun]
      refine ⟨?_, by rw [List.getLastD_eq_getLast?, List.getLast?_append]; simp⟩
      rcases Nat.lt_or_ge k0 (runAt c lsc psc n0).out.length with h' | h'
      · have hr0 := hok.run k0 h'
        cases hl : (runAt c lsc psc n0).out.getD k0 [] with
        | nil => exact absurd hl hr0.1
        | cons x xs =>
          have := hr0.2.1 x (by rw [hl]; exact List.mem_cons_self)
          simp
          omega
      · rw [List.getD_eq_getElem?_getD (l := (runAt c lsc psc n0).out), List.getElem?_eq_none (by omega)]
        simp
    · rename_i e
      rw [ht1, put_getD _ _ _ _ _ hk0, if_neg e]
      have hkl : k < (runAt c lsc psc n0).out.length := by
        rw [ht1, put_len _ _ _ _ _ hk0] at hk
        split at hk <;> omega
      have hr0 := hok.run k hkl
      cases hl : (runAt c lsc psc n0).out.getD k [] with
      | nil => exact absurd hl hr0.1
      | cons x xs =>
        rw [hl] at hr0
        have a1 := hr0.2.1 x List.mem_cons_self
        have a2 := hr0.2.1 ((x :: xs).getLastD 0) (by
          rw [List.getLastD_eq_getLast?, List.getLast?_eq_some_getLast (by simp)]
          exact List.getLast_mem _)
        refine ⟨by simp; omega, by omega⟩
  | succ m ih =>
    have ih := ih (by omega)
    have hokm := runAt_ok c lsc psc (n0 + 2 + m)
    rw [show n0 + 2 + (m + 1) + L = (n0 + 2 + m + L) + 1 by omega, show n0 + 2 + (m + 1) = (n0 + 2 + m) + 1 by omega, runAt, runAt]
    have hph : phi n0 L (n0 + 2 + m) = n0 + 2 + m + L := phi_high (by omega)
    refine ⟨?_, ?_⟩
    · have := ih.1.step hc hokm (by rw [hph]; exact runAt_ok f lsf psf _) (by omega)
      rwa [hph] at this
    · show Whole n0 ((runAt c lsc psc (n0 + 2 + m)).step c lsc psc (n0 + 2 + m))
      rw [hokm.step_put]
      split
      · exact ih.2
      · exact ih.2.put hokm _ _ (hokm.pick_le _ _) (by omega) (by omega) _ _
theorem list_ext_getD {α : Type} (d : α) {a b : List α} (hl : a.length = b.length) (h : ∀ i, i < a.length → a.getD i d = b.getD i d) : a = b := by
  refine List.ext_getElem hl fun i h1 h2 => ?_
  have := h i h1
  rw [List.getD_eq_getElem?_getD, List.getElem?_eq_getElem h1, List.getD_eq_getElem?_getD, List.getElem?_eq_getElem h2] at this
  exact this
/-- the runs of both lines -/
theorem Iso.runs {c f : List Int} {n0 L : Nat} (h : Iso c f n0 L) (base : Nat) (hb : base ≤ 1) (hn : n0 ≤ 60) : ∃ T1 T2 XS : List (List Nat),
    runsI c ((levI c base).1.map Int.ofNat) = T1 ++ T2 ∧ runsI f ((levI f base).1.map Int.ofNat) = T1.map (List.map (phi n0 L)) ++ XS ++ T2.map (List.map (phi n0 L)) ∧
    (∀ r ∈ XS, ∀ p ∈ r, n0 < p ∧ p ≤ n0 + L) ∧ ∀ r ∈ T1 ++ T2, r.getD 0 0 ≠ n0 + 1 ∧ r.getLastD 0 ≠ n0 := by
  have hlt := h.lt
  have hlen := h.len
  have hkc := levI_ok c base
  have hkf := levI_ok f base
  have gi : ∀ (l : List Nat) (i : Nat), ith (l.map Int.ofNat) i = ((l.getD i 0 : Nat) : Int) := fun l i => by
    unfold ith
    rw [List.getD_eq_getElem?_getD, List.getElem?_map, List.getD_eq_getElem?_getD]
    cases l[i]? <;> rfl
  have hl := h.lev_in base hb hn
  have hpo := h.pair_own
  have hc : RCtx c f ((levI c base).1.map Int.ofNat) ((levI f base).1.map Int.ofNat) (pairsI c) (pairsI f) n0 L :=
    ⟨h, fun p hp => by rw [gi, gi, (h.lev base hb hn p hp).1], fun p hp => h.pairs p hp, by rw [gi, gi, hl.1], fun i h1 h2 => by rw [gi, gi]; have := hl.2 i h1 h2; omega, hpo.1, hpo.2⟩
  obtain ⟨K, X, hr⟩ := hc.runs
  obtain ⟨hr, hw⟩ := hr c.length (by omega) (Nat.le_refl _)
  rw [runsI_at c _ (by rw [List.length_map]; exact hkc.1), runsI_at f _ (by rw [List.length_map]; exact hkf.1), hlen]
  generalize runAt c _ _ _ = t at hr hw ⊢
  generalize runAt f _ _ _ = s at hr ⊢
  have hsl := hr.len
  have hK := hr.kl
  refine ⟨t.out.take K, t.out.drop K, (s.out.drop K).take X, (List.take_append_drop K t.out).symm, ?_, fun r hrm p hp => ?_, fun r hrm => ?_⟩
  · refine list_ext_getD [] (by simp; omega) fun i hi => ?_
    rw [List.getD_eq_getElem?_getD, List.getD_eq_getElem?_getD]
    rcases Nat.lt_or_ge i K with h1 | h1
    · have := hr.at' i (by omega)
      have e : psi K X i = i := by unfold psi; rw [if_pos h1]
      rw [e, List.getD_eq_getElem?_getD] at this
      rw [this, List.append_assoc, List.getElem?_append_left (by simp; omega), List.getElem?_map, List.getElem?_take, if_pos h1, List.getD_eq_getElem?_getD, List.getElem?_eq_getElem (by omega)]
      rfl
    rcases Nat.lt_or_ge i (K + X) with h2 | h2
    · rw [List.getElem?_append_left (by simp; omega), List.getElem?_append_right (by simp; omega), List.getElem?_take, if_pos (by simp; omega), List.getElem?_drop]
      congr 2
      simp
      omega
    · have := hr.at' (i - X) (by omega)
      have e : psi K X (i - X) = i := by unfold psi; rw [if_neg (by omega)]; omega
      rw [e, List.getD_eq_getElem?_getD] at this
      rw [this, List.getElem?_append_right (by simp; omega), List.getElem?_map, List.getElem?_drop]
      have e2 : K + (i - (List.map (List.map (phi n0 L)) (List.take K t.out) ++ List.take X (List.drop K s.out)).length) = i - X := by simp; omega
      rw [e2, List.getD_eq_getElem?_getD, List.getElem?_eq_getElem (by omega)]
      rfl
  · obtain ⟨j, hj, rfl⟩ := List.mem_iff_getElem.1 hrm
    have hj' : j < X ∧ K + j < s.out.length := by simp at hj; omega
    refine hr.inn (K + j) (by omega) (by omega) p ?_
    rw [List.getD_eq_getElem?_getD, List.getElem?_eq_getElem hj'.2]
    simpa using hp
  · rw [List.take_append_drop] at hrm
    obtain ⟨j, hj, rfl⟩ := List.mem_iff_getElem.1 hrm
    have := hw j hj
    rw [List.getD_eq_getElem?_getD (l := t.out), List.getElem?_eq_getElem hj] at this
    exact this

theorem getD_map0 (n0 L : Nat) (l : List Nat) (i : Nat) : (l.map (phi n0 L)).getD i 0 = phi n0 L (l.getD i 0) := by
  rw [List.getD_eq_getElem?_getD, List.getElem?_map, List.getD_eq_getElem?_getD]
  cases l[i]? with
  | none => exact (phi_low (Nat.zero_le _)).symm
  | some x => rfl
/-! The sides of a run. -/
theorem Iso.ahead_low {c f : List Int} {n0 L : Nat} (h : Iso c f n0 L) (lc lf : List Nat) (base : Nat) (hls : ∀ p, p < c.length → lf.getD (phi n0 L p) 0 = lc.getD p 0) : ∀ a, a ≤ n0 → aheadL f lf base a = aheadL c lc base a
  | 0, _ => rfl
  | a + 1, ha => by
    have hlt := h.lt
    have := hls a (by omega)
    rw [phi_low (by omega)] at this
    rw [aheadL, aheadL, h.low a (by omega), h.ahead_low lc lf base hls a (by omega), this]
theorem Iso.ahead_high {c f : List Int} {n0 L : Nat} (h : Iso c f n0 L) (lc lf : List Nat) (base : Nat) (hls : ∀ p, p < c.length → lf.getD (phi n0 L p) 0 = lc.getD p 0) : ∀ a, n0 + 2 ≤ a → a ≤ c.length → aheadL f lf base (a + L) = aheadL c lc base a
  | 0, ha, _ => by omega
  | a + 1, ha, hn => by
    have := hls a (by omega)
    rw [phi_high (by omega)] at this
    rw [show a + 1 + L = (a + L) + 1 by omega, aheadL, aheadL, h.high a (by omega), this]
    rcases Nat.lt_or_ge (n0 + 1) a with h' | h'
    · rw [h.ahead_high lc lf base hls a (by omega) (by omega)]
    · obtain rfl : a = n0 + 1 := by omega
      rw [h.pdi, lkn22, if_neg (by omega), if_neg (by decide), if_neg (by omega), if_neg (by decide)]
theorem Iso.ahead {c f : List Int} {n0 L : Nat} (h : Iso c f n0 L) (lc lf : List Nat) (base : Nat) (hls : ∀ p, p < c.length → lf.getD (phi n0 L p) 0 = lc.getD p 0) (a : Nat) (ha : a ≠ n0 + 1) (hn : a ≤ c.length) : aheadL f lf base (phi n0 L a) = aheadL c lc base a := by
  unfold phi
  split
  · rename_i h'; exact h.ahead_low lc lf base hls a h'
  · rename_i h'; exact h.ahead_high lc lf base hls a (by omega) hn
theorem Iso.behind_high {c f : List Int} {n0 L : Nat} (h : Iso c f n0 L) (lc lf : List Nat) (base : Nat) (hls : ∀ p, p < c.length → lf.getD (phi n0 L p) 0 = lc.getD p 0) : ∀ m i, n0 < i → i + m ≤ c.length → behindL f lf base m (i + L) = behindL c lc base m i
  | 0, _, _, _ => rfl
  | m + 1, i, hi, hm => by
    have := hls i (by omega)
    rw [phi_high (by omega)] at this
    rw [behindL, behindL, h.high i hi, show i + L + 1 = (i + 1) + L by omega, h.behind_high lc lf base hls m (i + 1) (by omega) (by omega), this]
theorem Iso.behind_low {c f : List Int} {n0 L : Nat} (h : Iso c f n0 L) (lc lf : List Nat) (base : Nat) (hls : ∀ p, p < c.length → lf.getD (phi n0 L p) 0 = lc.getD p 0) : ∀ m i, i ≤ n0 → i + m = c.length → behindL f lf base (m + L) i = behindL c lc base m i
  | 0, i, hi, hm => by have := h.lt; omega
  | m + 1, i, hi, hm => by
    have := hls i (by omega)
    rw [phi_low hi] at this
    rw [show m + 1 + L = (m + L) + 1 by omega, behindL, behindL, h.low i hi, this]
    rcases Nat.lt_or_ge i n0 with h' | h'
    · rw [h.behind_low lc lf base hls m (i + 1) (by omega) (by omega)]
    · obtain rfl : i = n0 := by omega
      have hs := h.sign
      have hl : leftB (lkn (ith c i)) = false := by
        rw [sign_lkn hs]
        unfold leftB
        simp only [Bool.or_eq_false_iff, Bool.and_eq_false_iff, decide_eq_false_iff_not]
        omega
      rw [hl, if_neg (by simp), if_neg (by simp)]
theorem Iso.sides {c f : List Int} {n0 L : Nat} (h : Iso c f n0 L) (lc lf : List Nat) (base : Nat) (hcl : lc.length = c.length) (hfl : lf.length = f.length) (hls : ∀ p, p < c.length → lf.getD (phi n0 L p) 0 = lc.getD p 0)
    (r : List Nat) (h1 : r ≠ []) (h2 : ∀ p ∈ r, p < c.length) (h3 : r.getD 0 0 ≠ n0 + 1) (h4 : r.getLastD 0 ≠ n0) : sidesI f lf base (r.map (phi n0 L)) = sidesI c lc base r := by
  have hlen := h.len
  have hpos : 0 < r.length := List.length_pos_iff.2 h1
  have ha : r.getD 0 0 < c.length := h2 _ (nget_mem r 0 hpos)
  have hb : r.getLastD 0 < c.length := h2 _ (by
    rw [List.getLastD_eq_getLast?, List.getLast?_eq_some_getLast h1]
    exact List.getLast_mem _)
  rw [sidesI_at c lc r base c.length rfl hcl h1 h2, sidesI_at f lf (r.map (phi n0 L)) base f.length rfl hfl (by simpa using h1) (fun p hp => by
    rw [List.mem_map] at hp
    obtain ⟨q, hq, rfl⟩ := hp
    exact h.phi_lt (h2 q hq))]
  rw [getD_map0, getLastD_map0, hls _ ha, hls _ hb, h.ahead lc lf base hls _ h3 (by omega)]
  have hbe : behindG f lf base (phi n0 L (r.getLastD 0)) f.length = behindG c lc base (r.getLastD 0) c.length := by
    unfold behindG
    have hp : 0 ≤ ith (pairsI f) (phi n0 L (r.getLastD 0)) ↔ 0 ≤ ith (pairsI c) (r.getLastD 0) := by
      rw [h.pairs _ hb]
      have := phiZ_sign n0 L (ith (pairsI c) (r.getLastD 0))
      omega
    rw [h.at']
    have hbl : behindL f lf base (f.length - (phi n0 L (r.getLastD 0) + 1)) (phi n0 L (r.getLastD 0) + 1) = behindL c lc base (c.length - (r.getLastD 0 + 1)) (r.getLastD 0 + 1) := by
      generalize r.getLastD 0 = b at *
      rcases Nat.lt_or_ge b n0 with h' | h'
      · rw [phi_low (by omega), hlen, show c.length + L - (b + 1) = (c.length - (b + 1)) + L by omega]
        exact h.behind_low lc lf base hls _ _ (by omega) (by omega)
      · rw [phi_high (by omega), hlen, show c.length + L - (b + L + 1) = c.length - (b + 1) by omega, show b + L + 1 = (b + 1) + L by omega]
        exact h.behind_high lc lf base hls _ _ (by omega) (by omega)
    rw [hbl]
    by_cases e : (opensB (lkn (ith c (r.getLastD 0))) = false ∨ 0 ≤ ith (pairsI c) (r.getLastD 0)) ∧ lkn (ith c (r.getLastD 0)) ≠ 10
    · rw [if_pos e, if_pos ⟨e.1.imp id hp.2, e.2⟩]
    · rw [if_neg e, if_neg (fun e' => e ⟨e'.1.imp id hp.1, e'.2⟩)]
  rw [hbe]

/-! What the runs lay. -/
structure ORel (n n0 L : Nat) (t s : List Nat) : Prop where
  tl : t.length = n
  sl : s.length = n + L
  at' : ∀ p, p < n → s.getD (phi n0 L p) 0 = t.getD p 0
theorem ORel.set {n n0 L : Nat} {t s : List Nat} (h : ORel n n0 L t s) (p v : Nat) (hp : p < n) : ORel n n0 L (t.set p v) (s.set (phi n0 L p) v) :=
  ⟨by rw [List.length_set]; exact h.tl, by rw [List.length_set]; exact h.sl, fun q hq => by
    rw [nset_getD _ _ _ _ (by rw [h.sl]; exact phi_ltn hp), nset_getD _ _ _ _ (by rw [h.tl]; exact hp)]
    by_cases e : p = q
    · subst e; rw [if_pos rfl, if_pos rfl]
    · rw [if_neg (fun e' => e (phi_inj e')), if_neg e, h.at' q hq]⟩
theorem ORel.setIn {n n0 L : Nat} {t s : List Nat} (h : ORel n n0 L t s) (i v : Nat) (h1 : n0 < i) (h2 : i ≤ n0 + L) (hn : n0 < n) : ORel n n0 L t (s.set i v) :=
  ⟨h.tl, by rw [List.length_set]; exact h.sl, fun q hq => by
    rw [nset_getD _ _ _ _ (by rw [h.sl]; omega), if_neg (fun e => phi_out h1 h2 e.symm)]
    exact h.at' q hq⟩
theorem ORel.lay {n n0 L : Nat} (x : Nat) (own : List Int) : ∀ (r : List Nat) (i : Nat) (t s : List Nat), ORel n n0 L t s → (∀ p ∈ r, p < n) → ORel n n0 L (layRun x own r i t) (layRun x own (r.map (phi n0 L)) i s)
  | [], i, t, s, h, hr => h
  | p :: r, i, t, s, h, hr => by
    rw [List.map_cons, layRun, layRun]
    exact ORel.lay x own r (i + 1) _ _ (h.set p _ (hr p List.mem_cons_self)) (fun q hq => hr q (List.mem_cons_of_mem _ hq))
theorem ORel.layIn {n n0 L : Nat} (hn : n0 < n) (x : Nat) (own : List Int) : ∀ (r : List Nat) (i : Nat) (t s : List Nat), ORel n n0 L t s → (∀ p ∈ r, n0 < p ∧ p ≤ n0 + L) → ORel n n0 L t (layRun x own r i s)
  | [], i, t, s, h, hr => h
  | p :: r, i, t, s, h, hr => by
    rw [layRun]
    have := hr p List.mem_cons_self
    exact ORel.layIn hn x own r (i + 1) _ _ (h.setIn p _ this.1 this.2 hn) (fun q hq => hr q (List.mem_cons_of_mem _ hq))
theorem ORel.foldIn {n n0 L : Nat} (hn : n0 < n) (cs ds : List Int) (ls : List Nat) (ks : List Int) (base : Nat) : ∀ (XS : List (List Nat)) (t s : List Nat), ORel n n0 L t s → (∀ r ∈ XS, ∀ p ∈ r, n0 < p ∧ p ≤ n0 + L) →
    ORel n n0 L t (XS.foldl (fun out run => runOut cs ds ls ks base run out) s)
  | [], t, s, h, _ => h
  | r :: XS, t, s, h, hx => by
    rw [List.foldl_cons]
    refine ORel.foldIn hn cs ds ls ks base XS t _ ?_ (fun r' hr' => hx r' (List.mem_cons_of_mem _ hr'))
    unfold runOut
    exact ORel.layIn hn _ _ r 0 t s h (hx r List.mem_cons_self)
theorem ORel.fold {c f : List Int} {n0 L : Nat} (h : Iso c f n0 L) (cc fc : List Int) (hch : ∀ p, p < c.length → ith fc (phi n0 L p) = ith cc p) (lc lf : List Nat) (kc kf : List Int) (base : Nat)
    (hcl : lc.length = c.length) (hfl : lf.length = f.length) (hls : ∀ p, p < c.length → lf.getD (phi n0 L p) 0 = lc.getD p 0) (hks : ∀ p, p < c.length → ith kf (phi n0 L p) = ith kc p) :
    ∀ (T : List (List Nat)) (t s : List Nat), ORel c.length n0 L t s → (∀ r ∈ T, r ≠ [] ∧ (∀ p ∈ r, p < c.length) ∧ r.getD 0 0 ≠ n0 + 1 ∧ r.getLastD 0 ≠ n0) →
    ORel c.length n0 L (T.foldl (fun out run => runOut cc c lc kc base run out) t) ((T.map (List.map (phi n0 L))).foldl (fun out run => runOut fc f lf kf base run out) s)
  | [], t, s, hr, _ => hr
  | r :: T, t, s, hr, hT => by
    rw [List.map_cons, List.foldl_cons, List.foldl_cons]
    refine ORel.fold h cc fc hch lc lf kc kf base hcl hfl hls hks T _ _ ?_ (fun r' hr' => hT r' (List.mem_cons_of_mem _ hr'))
    obtain ⟨h1, h2, h3, h4⟩ := hT r List.mem_cons_self
    have hpos : 0 < r.length := List.length_pos_iff.2 h1
    have ha : r.getD 0 0 < c.length := h2 _ (nget_mem r 0 hpos)
    have e1 : (r.map (phi n0 L)).map (ith fc) = r.map (ith cc) := by rw [List.map_map]; exact List.map_congr_left fun p hp => hch p (h2 p hp)
    have e2 : (r.map (phi n0 L)).map (ith kf) = r.map (ith kc) := by rw [List.map_map]; exact List.map_congr_left fun p hp => hks p (h2 p hp)
    unfold runOut
    simp only
    rw [h.sides lc lf base hcl hfl hls r h1 h2 h3 h4, e1, e2, getD_map0, hls _ ha]
    exact ORel.lay _ _ r 0 t s hr h2

/-! What is left out goes with what stands ahead. -/
theorem Iso.tidy_high {c f : List Int} {n0 L : Nat} (h : Iso c f n0 L) (base : Nat) : ∀ (m p ahead : Nat) (t s : List Nat), n0 < p → p + m = c.length → ORel c.length n0 L t s → ORel c.length n0 L (tidyF c base m p ahead t) (tidyF f base m (p + L) ahead s)
  | 0, p, ahead, t, s, hp, hm, hr => hr
  | m + 1, p, ahead, t, s, hp, hm, hr => by
    have hg := hr.at' p (by omega)
    have hset := fun v => hr.set p v (by omega)
    rw [phi_high hp] at hg
    simp only [phi_high hp] at hset
    rw [tidyF, tidyF, h.high p hp, show p + L + 1 = (p + 1) + L by omega, hg]
    split
    · exact Iso.tidy_high h base m (p + 1) _ _ _ (by omega) (by omega) (hset _)
    split
    · exact Iso.tidy_high h base m (p + 1) _ _ _ (by omega) (by omega) (hset _)
    · exact Iso.tidy_high h base m (p + 1) _ _ _ (by omega) (by omega) hr
theorem Iso.tidy_in {c f : List Int} {n0 L : Nat} (h : Iso c f n0 L) (base m : Nat) (t : List Nat) : ∀ (k i ahead : Nat) (s : List Nat), n0 < i → i + k = n0 + 1 + L → ORel c.length n0 L t s →
    ∃ (ahead' : Nat) (s' : List Nat), ORel c.length n0 L t s' ∧ tidyF f base (k + m) i ahead s = tidyF f base m (n0 + 1 + L) ahead' s'
  | 0, i, ahead, s, h1, h2, hr => ⟨ahead, s, hr, by rw [Nat.zero_add, show i = n0 + 1 + L by omega]⟩
  | k + 1, i, ahead, s, h1, h2, hr => by
    have hlt := h.lt
    have hset := fun v => hr.setIn i v h1 (by omega) (by omega)
    rw [show k + 1 + m = (k + m) + 1 by omega, tidyF]
    split
    · exact Iso.tidy_in h base m t k (i + 1) _ _ (by omega) (by omega) (hset _)
    split
    · exact Iso.tidy_in h base m t k (i + 1) _ _ (by omega) (by omega) (hset _)
    · exact Iso.tidy_in h base m t k (i + 1) _ _ (by omega) (by omega) hr
theorem Iso.tidy_pdi {c f : List Int} {n0 L : Nat} (h : Iso c f n0 L) (base m a1 a2 : Nat) (t s : List Nat) (hm : n0 + 1 + m = c.length) (hr : ORel c.length n0 L t s) :
    ORel c.length n0 L (tidyF c base m (n0 + 1) a1 t) (tidyF f base m (n0 + 1 + L) a2 s) := by
  have hlt := h.lt
  obtain ⟨k, rfl⟩ : ∃ k, m = k + 1 := ⟨m - 1, by omega⟩
  have hg := hr.at' (n0 + 1) (by omega)
  rw [phi_high (by omega)] at hg
  rw [tidyF, tidyF, h.pdi, h.fpdi, if_neg (by decide), if_neg (by omega), if_neg (by decide), if_neg (by omega), hg, show n0 + 1 + L + 1 = (n0 + 1 + 1) + L by omega]
  exact h.tidy_high base k _ _ _ _ (by omega) (by omega) hr
theorem Iso.tidy_low {c f : List Int} {n0 L : Nat} (h : Iso c f n0 L) (base : Nat) : ∀ (m p ahead : Nat) (t s : List Nat), p ≤ n0 → p + m = c.length → ORel c.length n0 L t s → ORel c.length n0 L (tidyF c base m p ahead t) (tidyF f base (m + L) p ahead s)
  | 0, p, ahead, t, s, hp, hm, hr => by have := h.lt; omega
  | m + 1, p, ahead, t, s, hp, hm, hr => by
    have hg := hr.at' p (by omega)
    have hset := fun v => hr.set p v (by omega)
    rw [phi_low hp] at hg
    simp only [phi_low hp] at hset
    have key : ∀ (a : Nat) (t s : List Nat), ORel c.length n0 L t s → ORel c.length n0 L (tidyF c base m (p + 1) a t) (tidyF f base (m + L) (p + 1) a s) := fun a t s hr => by
      rcases Nat.lt_or_ge p n0 with h' | h'
      · exact Iso.tidy_low h base m (p + 1) a t s (by omega) (by omega) hr
      · obtain rfl : p = n0 := by omega
        obtain ⟨a', s', hr', e⟩ := h.tidy_in base m t L (p + 1) a s (by omega) (by omega) hr
        rw [show m + L = L + m by omega, e]
        exact h.tidy_pdi base m a a' t s' (by omega) hr'
    rw [show m + 1 + L = (m + L) + 1 by omega, tidyF, tidyF, h.low p hp, hg]
    split
    · exact key _ _ _ (hset _)
    split
    · exact key _ _ _ (hset _)
    · exact key _ _ _ hr
/-- a paragraph with an isolate -/
theorem Iso.para {c f : List Int} {n0 L : Nat} (h : Iso c f n0 L) (cc fc : List Int) (h1 : cc.length = c.length) (h2 : fc.length = f.length) (hch : ∀ p, p < c.length → ith fc (phi n0 L p) = ith cc p) (base : Nat) (hb : base ≤ 1) (hn : n0 ≤ 60) :
    ORel c.length n0 L (paraI cc c base) (paraI fc f base) := by
  have hlen := h.len
  have hlt := h.lt
  obtain ⟨T1, T2, XS, e1, e2, hx, hT⟩ := h.runs base hb hn
  have hkc := levI_ok c base
  have hkf := levI_ok f base
  have hls := fun p hp => (h.lev base hb hn p hp).1
  have hks := fun p hp => (h.lev base hb hn p hp).2
  have hok := runsI_ok c ((levI c base).1.map Int.ofNat)
  rw [e1] at hok
  have hT' : ∀ r ∈ T1 ++ T2, r ≠ [] ∧ (∀ p ∈ r, p < c.length) ∧ r.getD 0 0 ≠ n0 + 1 ∧ r.getLastD 0 ≠ n0 := fun r hr => by
    have := hok r hr
    refine ⟨this.1, fun p hp => ?_, hT r hr⟩
    have := this.2.1 p hp
    omega
  have start : ORel c.length n0 L (List.replicate cc.length 0) (List.replicate fc.length 0) := by
    refine ⟨by rw [List.length_replicate]; exact h1, by rw [List.length_replicate, h2]; exact hlen, fun p hp => ?_⟩
    rw [List.getD_eq_getElem?_getD, List.getElem?_replicate, List.getD_eq_getElem?_getD, List.getElem?_replicate]
    split <;> split <;> rfl
  have f1 := ORel.fold h cc fc hch (levI c base).1 (levI f base).1 (levI c base).2 (levI f base).2 base hkc.1 hkf.1 hls hks T1 _ _ start (fun r hr => hT' r (List.mem_append_left _ hr))
  have f2 := ORel.foldIn (by omega) fc f (levI f base).1 (levI f base).2 base XS _ _ f1 hx
  have f3 := ORel.fold h cc fc hch (levI c base).1 (levI f base).1 (levI c base).2 (levI f base).2 base hkc.1 hkf.1 hls hks T2 _ _ f2 (fun r hr => hT' r (List.mem_append_right _ hr))
  unfold paraI
  simp only
  rw [e1, e2, List.foldl_append, List.foldl_append, List.foldl_append, hlen]
  exact h.tidy_low base c.length 0 base _ _ (by omega) (by omega) f3

/-! A line. -/
theorem split_last : ∀ A : List Int, ∃ A1 P, A = A1 ++ P ∧ (A1 = [] ∨ dirI (A1.getLastD 0) = 10) ∧ ∀ x ∈ P, dirI x ≠ 10
  | [] => ⟨[], [], rfl, .inl rfl, fun x hx => by simp at hx⟩
  | a :: t => by
    obtain ⟨T1, P, h1, h2, h3⟩ := split_last t
    by_cases hT : T1 = []
    · subst hT
      by_cases ha : dirI a = 10
      · exact ⟨[a], P, by rw [h1]; rfl, .inr ha, h3⟩
      · refine ⟨[], a :: P, by rw [h1]; rfl, .inl rfl, fun x hx => ?_⟩
        rcases List.mem_cons.1 hx with e | e
        · rw [e]; exact ha
        · exact h3 x e
    · refine ⟨a :: T1, P, by rw [h1]; rfl, .inr ?_, h3⟩
      have := h2.resolve_left hT
      cases T1 with
      | nil => exact absurd rfl hT
      | cons b r => exact this
theorem paraLen_none : ∀ (X Y : List Int), (∀ x ∈ X, x ≠ 10) → paraLen (X ++ Y) = X.length + paraLen Y
  | [], Y, _ => by simp
  | x :: X, Y, h => by
    have ih := paraLen_none X Y (fun y hy => h y (List.mem_cons_of_mem _ hy))
    have hx : (x == 10) = false := by simpa using h x List.mem_cons_self
    unfold paraLen at ih ⊢
    rw [List.cons_append, List.findIdx?_cons, hx]
    cases hf : (X ++ Y).findIdx? (fun d => d == 10) with
    | none => rw [hf] at ih; simp only [List.length_append, List.length_cons] at ih ⊢; simp; omega
    | some i => rw [hf] at ih; simp only [List.length_cons] at ih ⊢; simp; omega
theorem linesF_len (base : Nat) (hb : base ≤ 125) (cs : List Int) : (linesF base cs.length cs []).length = cs.length :=
  (lines_get (fun _ => True) (fun _ => True) base (fun _ _ _ => ⟨trivial, trivial⟩) (fun cs _ => ⟨(para_bounds cs base hb).1, fun p hp => ⟨trivial, ((para_bounds cs base hb).2 p hp).2⟩⟩) cs.length cs (Nat.le_refl _) trivial).1
theorem dirs_iso (P B I : List Int) (s z : Int) (hs : 19 ≤ dirI s ∧ dirI s ≤ 21) (hz : dirI z = 22) (hI : ∀ x ∈ I, Quiet (dirI x)) :
    (∀ p, ith (P ++ s :: (I ++ z :: B)) (phi P.length I.length p) = ith (P ++ s :: z :: B) p) ∧ Iso ((P ++ s :: z :: B).map dirI) ((P ++ s :: (I ++ z :: B)).map dirI) P.length I.length := by
  have low : ∀ p, p ≤ P.length → ith (P ++ s :: (I ++ z :: B)) p = ith (P ++ s :: z :: B) p := fun p hp => by
    unfold ith
    rw [List.getD_eq_getElem?_getD, List.getD_eq_getElem?_getD]
    rcases Nat.lt_or_ge p P.length with h | h
    · rw [List.getElem?_append_left h, List.getElem?_append_left h]
    · obtain rfl : p = P.length := by omega
      rw [List.getElem?_append_right (Nat.le_refl _), List.getElem?_append_right (Nat.le_refl _), Nat.sub_self]
      rfl
  have high : ∀ p, P.length < p → ith (P ++ s :: (I ++ z :: B)) (p + I.length) = ith (P ++ s :: z :: B) p := fun p hp => by
    unfold ith
    rw [List.getD_eq_getElem?_getD, List.getD_eq_getElem?_getD, List.getElem?_append_right (by omega), List.getElem?_append_right (by omega)]
    obtain ⟨k, rfl⟩ : ∃ k, p = P.length + 1 + k := ⟨p - (P.length + 1), by omega⟩
    rw [show P.length + 1 + k + I.length - P.length = (I.length + k) + 1 by omega, show P.length + 1 + k - P.length = k + 1 by omega, List.getElem?_cons_succ, List.getElem?_cons_succ, List.getElem?_append_right (by omega), show I.length + k - I.length = k by omega]
  have mi : ∀ (l : List Int) (p : Nat), p < l.length → ith (l.map dirI) p = dirI (ith l p) := fun l p hp => by
    unfold ith
    rw [List.getD_eq_getElem?_getD, List.getElem?_map, List.getElem?_eq_getElem hp, List.getD_eq_getElem?_getD, List.getElem?_eq_getElem hp]
    rfl
  have l1 : (P ++ s :: z :: B).length = P.length + 2 + B.length := by simp; omega
  have l2 : (P ++ s :: (I ++ z :: B)).length = P.length + 2 + B.length + I.length := by simp; omega
  have far : ∀ (l : List Int) (p : Nat), l.length ≤ p → ith l p = 0 := fun l p hp => by
    unfold ith; rw [List.getD_eq_getElem?_getD, List.getElem?_eq_none hp]; rfl
  refine ⟨fun p => ?_, by rw [List.length_map, List.length_map, l1, l2], by rw [List.length_map, l1]; omega, fun p hp => ?_, fun p hp => ?_, fun i h1 h2 => ?_, ?_, ?_⟩
  · unfold phi
    split
    · rename_i h; exact low p h
    · rename_i h; exact high p (by omega)
  · rw [mi _ _ (by omega), mi _ _ (by omega), low p hp]
  · rcases Nat.lt_or_ge p (P.length + 2 + B.length) with h | h
    · rw [mi _ _ (by omega), mi _ _ (by omega), high p hp]
    · rw [far _ _ (by rw [List.length_map, l2]; omega), far _ _ (by rw [List.length_map, l1]; omega)]
  · rw [mi _ _ (by omega)]
    refine hI _ ?_
    unfold ith
    rw [List.getD_eq_getElem?_getD, List.getElem?_append_right (by omega)]
    obtain ⟨k, rfl⟩ : ∃ k, i = P.length + 1 + k := ⟨i - (P.length + 1), by omega⟩
    rw [show P.length + 1 + k - P.length = k + 1 by omega, List.getElem?_cons_succ, List.getElem?_append_left (by omega), List.getElem?_eq_getElem (by omega)]
    exact List.getElem_mem _
  · have e : ith (P ++ s :: z :: B) P.length = s := by
      unfold ith
      rw [List.getD_eq_getElem?_getD, List.getElem?_append_right (Nat.le_refl _), Nat.sub_self]
      rfl
    rw [mi _ _ (by omega), e]; exact hs
  · have e : ith (P ++ s :: z :: B) (P.length + 1) = z := by
      unfold ith
      rw [List.getD_eq_getElem?_getD, List.getElem?_append_right (by omega), show P.length + 1 - P.length = 1 by omega]
      rfl
    rw [mi _ _ (by omega), e]; exact hz
/-- the first paragraph of P s I z B, P without an end -/
theorem first_para (base : Nat) (hb : base ≤ 125) (P B I : List Int) (s z : Int) (hP : ∀ x ∈ P, dirI x ≠ 10) (hs : 19 ≤ dirI s ∧ dirI s ≤ 21) (hz : dirI z = 22) (hI : ∀ x ∈ I, Quiet (dirI x)) :
    linesF base (P ++ s :: (I ++ z :: B)).length (P ++ s :: (I ++ z :: B)) [] =
      paraI (P ++ s :: (I ++ z :: B.take (paraLen (B.map dirI)))) ((P ++ s :: (I ++ z :: B.take (paraLen (B.map dirI)))).map dirI) base ++ linesF base (B.drop (paraLen (B.map dirI))).length (B.drop (paraLen (B.map dirI))) [] := by
  obtain ⟨q, hq⟩ : ∃ q, paraLen (B.map dirI) = q := ⟨_, rfl⟩
  have hk : paraLen ((P ++ s :: (I ++ z :: B)).map dirI) = P.length + 1 + I.length + 1 + q := by
    have e : (P ++ s :: (I ++ z :: B)).map dirI = (P.map dirI ++ (dirI s :: (I.map dirI ++ [dirI z]))) ++ B.map dirI := by simp
    rw [e, paraLen_none, hq]
    · simp; omega
    · intro x hx
      rw [List.mem_append, List.mem_cons, List.mem_append, List.mem_singleton, List.mem_map, List.mem_map] at hx
      rcases hx with ⟨y, hy, rfl⟩ | rfl | ⟨y, hy, rfl⟩ | rfl
      · exact hP y hy
      · omega
      · exact (hI y hy).2.2
      · omega
  have hne : P ++ s :: (I ++ z :: B) ≠ [] := by simp
  obtain ⟨g, hg⟩ : ∃ g, (P ++ s :: (I ++ z :: B)).length = g + 1 := ⟨(P ++ s :: (I ++ z :: B)).length - 1, by simp; omega⟩
  rw [hq, hg, linesF, if_neg hne, hk, lines_out base g, List.nil_append]
  have e1 : (P ++ s :: (I ++ z :: B)).take (P.length + 1 + I.length + 1 + q) = P ++ s :: (I ++ z :: B.take q) := by
    rw [show P.length + 1 + I.length + 1 + q = P.length + (I.length + (q + 1) + 1) by omega, List.take_length_add_append, List.take_succ_cons, List.take_length_add_append, List.take_succ_cons]
  have e2 : (P ++ s :: (I ++ z :: B)).drop (P.length + 1 + I.length + 1 + q) = B.drop q := by
    rw [show P.length + 1 + I.length + 1 + q = P.length + (I.length + (q + 1) + 1) by omega, List.drop_length_add_append, List.drop_succ_cons, List.drop_length_add_append, List.drop_succ_cons]
  rw [e1, e2]
  congr 1
  refine lines_fuel base g (B.drop q) _ ?_ (Nat.le_refl _)
  have : (P ++ s :: (I ++ z :: B)).length = P.length + 2 + B.length + I.length := by simp; omega
  rw [List.length_drop]; omega
theorem getD_app3 (a b c : List Nat) (p : Nat) : (a ++ (b ++ c)).getD p 0 = if p < a.length then a.getD p 0 else if p < a.length + b.length then b.getD (p - a.length) 0 else c.getD (p - a.length - b.length) 0 := by
  rw [List.getD_eq_getElem?_getD]
  split
  · rename_i h; rw [List.getElem?_append_left h, ← List.getD_eq_getElem?_getD]
  · rename_i h
    rw [List.getElem?_append_right (by omega)]
    split
    · rw [List.getElem?_append_left (by omega), ← List.getD_eq_getElem?_getD]
    · rw [List.getElem?_append_right (by omega), ← List.getD_eq_getElem?_getD]
/-- the same line with nothing in its isolate -/
theorem iso_one (A B I : List Int) (s z want : Int) (hA : A.length ≤ 50) (hs : 19 ≤ dirI s ∧ dirI s ≤ 21) (hz : dirI z = 22) (hI : ∀ x ∈ I, Quiet (dirI x)) :
    (visualI (A ++ s :: (I ++ z :: B)) want).2 = (visualI (A ++ s :: z :: B) want).2 ∧
    ∀ p, p < A.length + 2 + B.length → (visualI (A ++ s :: (I ++ z :: B)) want).1.getD (phi A.length I.length p) 0 = (visualI (A ++ s :: z :: B) want).1.getD p 0 := by
  have hiso := (dirs_iso A B I s z hs hz hI).2
  have hbase := hiso.baseI want
  have hbd := baseF_bd want (((A ++ s :: z :: B).map dirI).length + 1) ((A ++ s :: z :: B).map dirI)
  unfold visualI
  simp only
  refine ⟨hbase, fun p hp => ?_⟩
  rw [hbase]
  obtain ⟨b, hb⟩ : ∃ b, (baseI ((A ++ s :: z :: B).map dirI) want).toNat = b := ⟨_, rfl⟩
  have hb1 : b ≤ 1 := by rw [← hb]; unfold baseI; omega
  rw [hb]
  obtain ⟨A1, P, rfl, hA1, hP⟩ := split_last A
  rw [List.length_append] at hA
  have e1 : ∀ X : List Int, A1 ++ P ++ X = A1 ++ (P ++ X) := fun X => List.append_assoc _ _ _
  rw [e1, e1, lines_split b _ A1.length A1 (Nat.le_refl _) hA1, lines_split b _ A1.length A1 (Nat.le_refl _) hA1, first_para b (by omega) P B I s z hP hs hz hI]
  have h0 := first_para b (by omega) P B [] s z hP hs hz (fun x hx => by simp at hx)
  rw [List.nil_append, List.nil_append] at h0
  rw [h0]
  obtain ⟨q, hq⟩ : ∃ q, paraLen (B.map dirI) = q := ⟨_, rfl⟩
  rw [hq]
  have hi2 := dirs_iso P (B.take q) I s z hs hz hI
  have hpar := hi2.2.para (P ++ s :: z :: B.take q) (P ++ s :: (I ++ z :: B.take q)) (by simp) (by simp) (fun p _ => hi2.1 p) b hb1 (by omega)
  generalize paraI (P ++ s :: z :: B.take q) _ b = R0 at hpar ⊢
  generalize paraI (P ++ s :: (I ++ z :: B.take q)) _ b = R1 at hpar ⊢
  have hL1 := linesF_len b (by omega) A1
  generalize linesF b A1.length A1 [] = LA at hL1 ⊢
  generalize linesF b (B.drop q).length (B.drop q) [] = LB
  have hn : ((P ++ s :: z :: B.take q).map dirI).length = P.length + 2 + (B.take q).length := by simp; omega
  rw [hn] at hpar
  obtain ⟨n, hnn⟩ : ∃ n, P.length + 2 + (B.take q).length = n := ⟨_, rfl⟩
  rw [hnn] at hpar
  have t1 := hpar.tl
  have t2 := hpar.sl
  rw [getD_app3, getD_app3, hL1, t1, t2, List.length_append]
  by_cases c1 : p < A1.length
  · rw [phi_low (by omega), if_pos c1, if_pos c1]
  · rw [if_neg c1, if_neg (by unfold phi; split <;> omega)]
    by_cases c2 : p < A1.length + n
    · have hat := hpar.at' (p - A1.length) (by omega)
      have e : phi (A1.length + P.length) I.length p - A1.length = phi P.length I.length (p - A1.length) := by unfold phi; split <;> split <;> omega
      rw [if_pos c2, if_pos (by unfold phi; split <;> omega), e, hat]
    · rw [if_neg c2, phi_high (by omega), if_neg (by omega)]
      congr 1
      omega
/-- what VisualIsolates asks -/
theorem iso_two (A B I J : List Int) (s z want : Int) (hA : A.length ≤ 50) (hs : 19 ≤ dirI s ∧ dirI s ≤ 21) (hz : dirI z = 22) (hI : ∀ x ∈ I, Quiet (dirI x)) (hJ : ∀ x ∈ J, Quiet (dirI x)) :
    (visualI (A ++ s :: (I ++ z :: B)) want).2 = (visualI (A ++ s :: (J ++ z :: B)) want).2 ∧
    (∀ i, i ≤ A.length → (visualI (A ++ s :: (I ++ z :: B)) want).1.getD i 0 = (visualI (A ++ s :: (J ++ z :: B)) want).1.getD i 0) ∧
    ∀ i, 1 ≤ i → i ≤ B.length + 1 → (visualI (A ++ s :: (I ++ z :: B)) want).1.getD (A.length + 2 + B.length + I.length - i) 0 = (visualI (A ++ s :: (J ++ z :: B)) want).1.getD (A.length + 2 + B.length + J.length - i) 0 := by
  have h1 := iso_one A B I s z want hA hs hz hI
  have h2 := iso_one A B J s z want hA hs hz hJ
  refine ⟨h1.1.trans h2.1.symm, fun i hi => ?_, fun i hi hi2 => ?_⟩
  · have a := h1.2 i (by omega)
    have b := h2.2 i (by omega)
    rw [phi_low hi] at a b
    rw [a, b]
  · have a := h1.2 (A.length + 2 + B.length - i) (by omega)
    have b := h2.2 (A.length + 2 + B.length - i) (by omega)
    rw [phi_high (by omega)] at a b
    rw [show A.length + 2 + B.length + I.length - i = A.length + 2 + B.length - i + I.length by omega, show A.length + 2 + B.length + J.length - i = A.length + 2 + B.length - i + J.length by omega, a, b]
end Go.Proofs.Ytbhhebheclfdlaa
