/- Plain laws of layer 9: what the pairs are: apart, not crossing, of the kind 13, one another's; what resolveF leaves; no program is in sight. -/
import Derived.Test.YtbhhebheclfdlaaPlain09B
namespace Go.Proofs.Ytbhhebheclfdlaa
set_option linter.unusedVariables false
set_option linter.unusedSimpArgs false

theorem pair_shut_all : ∀ k, k < 30 → (pairI (ith brL k)).2.1 = true → pairI (pairI (ith brL k)).1 = (ith brL k, false, true) := by decide +kernel
theorem pair_ok_mem {x : Int} (h : (pairI x).2.2 = true) : ∃ k, k < 30 ∧ ith brL k = x := by
  apply Classical.byContradiction
  intro hn
  have := pairI_miss x (fun j hj e => hn ⟨j, hj, e⟩)
  rw [this] at h
  cases h
theorem pair_inv {x y : Int} (h : pairI x = (y, true, true)) : pairI y = (x, false, true) := by
  obtain ⟨k, hk, rfl⟩ := pair_ok_mem (x := x) (by rw [h])
  have := pair_shut_all k hk (by rw [h])
  rw [h] at this
  exact this

def Cross (p q : Nat × Nat) : Prop := p.1 < q.1 ∧ q.1 < p.2 ∧ p.2 < q.2
def Apart (p q : Nat × Nat) : Prop := p.1 ≠ q.1 ∧ p.1 ≠ q.2 ∧ p.2 ≠ q.1 ∧ p.2 ≠ q.2 ∧ ¬ Cross p q ∧ ¬ Cross q p
def PairOk (rs ks : List Int) (n : Nat) (p : Nat × Nat) : Prop :=
  p.1 < p.2 ∧ p.2 < n ∧ ith ks p.1 = 13 ∧ ith ks p.2 = 13 ∧ pairI (ith rs p.1) = (ith rs p.2, true, true) ∧ pairI (ith rs p.2) = (ith rs p.1, false, true)
structure BInv (rs ks : List Int) (i : Nat) (st : List (Nat × Int)) (out : List (Nat × Nat)) : Prop where
  pos : st.Pairwise (fun x y => x.1 < y.1)
  lt : ∀ x ∈ st, x.1 < i
  ok : ∀ x ∈ st, ith ks x.1 = 13 ∧ pairI (ith rs x.1) = (x.2, true, true)
  outOk : ∀ p ∈ out, PairOk rs ks i p
  apart : out.Pairwise Apart
  stApart : ∀ p ∈ out, ∀ x ∈ st, x.1 ≠ p.1 ∧ x.1 ≠ p.2 ∧ ¬ (p.1 < x.1 ∧ x.1 < p.2)

theorem PairOk.up {rs ks : List Int} {n m : Nat} {p : Nat × Nat} (h : PairOk rs ks n p) (hm : n ≤ m) : PairOk rs ks m p := ⟨h.1, by have := h.2.1; omega, h.2.2⟩
theorem BInv.next {rs ks : List Int} {i : Nat} {st : List (Nat × Int)} {out : List (Nat × Nat)} (h : BInv rs ks i st out) : BInv rs ks (i + 1) st out :=
  ⟨h.pos, fun x hx => by have := h.lt x hx; omega, h.ok, fun p hp => (h.outOk p hp).up (by omega), h.apart, h.stApart⟩
theorem BInv.push {rs ks : List Int} {i : Nat} {st : List (Nat × Int)} {out : List (Nat × Nat)} (h : BInv rs ks i st out) (hk : ith ks i = 13) (o : Int) (hp : pairI (ith rs i) = (o, true, true)) : BInv rs ks (i + 1) (st ++ [(i, o)]) out := by
  refine ⟨?_, fun x hx => ?_, fun x hx => ?_, h.next.outOk, h.apart, fun p hpm x hx => ?_⟩
  · rw [List.pairwise_append]
    exact ⟨h.pos, List.pairwise_singleton _ _, fun x hx y hy => by rw [List.mem_singleton] at hy; subst hy; exact h.lt x hx⟩
  · rw [List.mem_append, List.mem_singleton] at hx
    rcases hx with hx | rfl
    · have := h.lt x hx; omega
    · show i < i + 1; omega
  · rw [List.mem_append, List.mem_singleton] at hx
    rcases hx with hx | rfl
    · exact h.ok x hx
    · exact ⟨hk, hp⟩
  · rw [List.mem_append, List.mem_singleton] at hx
    rcases hx with hx | rfl
    · exact h.stApart p hpm x hx
    · have := (h.outOk p hpm).1
      have := (h.outOk p hpm).2.1
      exact ⟨by show i ≠ p.1; omega, by show i ≠ p.2; omega, by show ¬ (p.1 < i ∧ i < p.2); omega⟩
theorem BInv.close {rs ks : List Int} {i k : Nat} {st : List (Nat × Int)} {out : List (Nat × Nat)} (h : BInv rs ks i st out) (hk : ith ks i = 13) (hkl : k < st.length) (ho : (st.getD k (0, 0)).2 = ith rs i) :
    BInv rs ks (i + 1) (st.take k) (out ++ [((st.getD k (0, 0)).1, i)]) := by
  have hm := getD_mem st (0, 0) k hkl
  generalize hx : st.getD k (0, 0) = x at hm ho
  have hxl := h.lt x hm
  have hxo := h.ok x hm
  have htk : ∀ y ∈ st.take k, y.1 < x.1 := fun y hy => by
    obtain ⟨j, hj, hy'⟩ := List.mem_iff_getElem.1 hy
    rw [List.length_take] at hj
    rw [List.getElem_take] at hy'
    have h1 := (List.pairwise_iff_getElem.1 h.pos) j k (by omega) hkl (by omega)
    have h2 : st[k] = x := by rw [← hx, List.getD_eq_getElem?_getD, List.getElem?_eq_getElem hkl]; rfl
    rw [hy', h2] at h1
    exact h1
  have hnew : PairOk rs ks (i + 1) (x.1, i) := by
    refine ⟨hxl, by show i < i + 1; omega, hxo.1, hk, ?_, ?_⟩
    · show pairI (ith rs x.1) = (ith rs i, true, true)
      rw [hxo.2, ho]
    · have := pair_inv hxo.2
      rw [ho] at this
      exact this
  refine ⟨h.pos.sublist (List.take_sublist _ _), fun y hy => by have := h.lt y (List.mem_of_mem_take hy); omega, fun y hy => h.ok y (List.mem_of_mem_take hy), fun p hp => ?_, ?_, fun p hp y hy => ?_⟩
  · rw [List.mem_append, List.mem_singleton] at hp
    rcases hp with hp | rfl
    · exact h.next.outOk p hp
    · exact hnew
  · rw [List.pairwise_append]
    refine ⟨h.apart, List.pairwise_singleton _ _, fun p hp q hq => ?_⟩
    rw [List.mem_singleton] at hq
    subst hq
    have h1 := (h.outOk p hp).1
    have h2 := (h.outOk p hp).2.1
    have h3 := h.stApart p hp x hm
    exact ⟨fun e => h3.1 e.symm, by show p.1 ≠ i; omega, fun e => h3.2.1 e.symm, by show p.2 ≠ i; omega, fun hc => h3.2.2 ⟨hc.1, hc.2.1⟩, fun hc => by have : i < p.2 := hc.2.2; omega⟩
  · have hyx := htk y hy
    rw [List.mem_append, List.mem_singleton] at hp
    rcases hp with hp | rfl
    · exact h.stApart p hp y (List.mem_of_mem_take hy)
    · exact ⟨by show y.1 ≠ x.1; omega, by show y.1 ≠ i; omega, by show ¬ (x.1 < y.1 ∧ y.1 < i); omega⟩

/-- what is found -/
structure Found (rs ks : List Int) (n : Nat) (out : List (Nat × Nat)) : Prop where
  ok : ∀ p ∈ out, PairOk rs ks n p
  apart : out.Pairwise Apart
theorem Apart.symm {p q : Nat × Nat} (h : Apart p q) : Apart q p := ⟨fun e => h.1 e.symm, fun e => h.2.2.1 e.symm, fun e => h.2.1 e.symm, fun e => h.2.2.2.1 e.symm, h.2.2.2.2.2, h.2.2.2.2.1⟩
theorem Found.perm {rs ks : List Int} {n : Nat} {l out : List (Nat × Nat)} (h : Found rs ks n out) (hp : l.Perm out) : Found rs ks n l :=
  ⟨fun p hm => h.ok p (hp.mem_iff.1 hm), (hp.pairwise_iff (fun h => h.symm)).2 h.apart⟩
theorem brkF_found (rs ks : List Int) : ∀ (m i : Nat) (st : List (Nat × Int)) (out : List (Nat × Nat)), BInv rs ks i st out → Found rs ks (i + m) (brkF rs ks m i st out)
  | 0, i, st, out, h => ⟨h.outOk, h.apart⟩
  | m + 1, i, st, out, h => by
    have e : i + 1 + m = i + (m + 1) := by omega
    unfold brkF
    split
    · have := brkF_found rs ks m (i + 1) st out h.next
      rwa [e] at this
    · rename_i hno
      have h13 : ith ks i = 13 := Classical.byContradiction fun hh => hno (.inr hh)
      have hok : (pairI (ith rs i)).2.2 = true := by
        cases hb : (pairI (ith rs i)).2.2
        · exact absurd (.inl hb) hno
        · rfl
      split
      · rename_i hop
        split
        · exact ⟨fun p hp => (h.outOk p hp).up (by omega), h.apart⟩
        · have hp : pairI (ith rs i) = ((pairI (ith rs i)).1, true, true) := by
            rcases hq : pairI (ith rs i) with ⟨a, b, c⟩
            rw [hq] at hop hok
            simp only at hop hok
            rw [hop, hok]
          have := brkF_found rs ks m (i + 1) _ out (h.push h13 _ hp)
          rwa [e] at this
      · split
        · have := brkF_found rs ks m (i + 1) st out h.next
          rwa [e] at this
        · rename_i k hk
          have hf := findTop_lt st _ _ k hk
          have := brkF_found rs ks m (i + 1) _ _ (h.close h13 hf.1 hf.2)
          rwa [e] at this
theorem brkF_all (rs ks : List Int) (n : Nat) : Found rs ks n (brkF rs ks n 0 [] []) := by
  have := brkF_found rs ks n 0 [] [] ⟨.nil, by simp, by simp, by simp, .nil, by simp⟩
  rwa [Nat.zero_add] at this

theorem alF_ith : ∀ (m i : Nat) (xs : List Int) (j : Nat), i + m ≤ xs.length → ith (alF m i xs) j = (if i ≤ j ∧ j < i + m then alI (ith xs j) else ith xs j) ∧ (alF m i xs).length = xs.length
  | 0, i, xs, j, _ => by rw [alF, if_neg (by omega)]; exact ⟨rfl, rfl⟩
  | m + 1, i, xs, j, hm => by
    unfold alF
    split
    · rename_i h2
      have := alF_ith m (i + 1) (xs.set i 1) j (by rw [List.length_set]; omega)
      rw [ith_setP _ _ _ _ (by omega), List.length_set] at this
      refine ⟨this.1.trans ?_, this.2⟩
      by_cases h1 : i = j
      · subst h1; rw [if_neg (by omega), if_pos rfl, if_pos (by omega), alI, if_pos h2]
      · rw [if_neg h1]
        by_cases h3 : i + 1 ≤ j ∧ j < i + 1 + m
        · rw [if_pos h3, if_pos (by omega)]
        · rw [if_neg h3, if_neg (by omega)]
    · rename_i h2
      have := alF_ith m (i + 1) xs j (by omega)
      refine ⟨this.1.trans ?_, this.2⟩
      by_cases h1 : i = j
      · subst h1; rw [if_neg (by omega), if_pos (by omega), alI, if_neg h2]
      · by_cases h3 : i + 1 ≤ j ∧ j < i + 1 + m
        · rw [if_pos h3, if_pos (by omega)]
        · rw [if_neg h3, if_neg (by omega)]

/-- the last part: everything has a direction behind it -/
theorem restF_turned {D : Int → Prop} (n : Nat) (e sos eos : Int) (he : D e) (hs : D sos) (ys : List Int) (hn : ys.length = n) (hD : ∀ i, i < ys.length → 0 ≤ wayI (ith ys i) → D (wayI (ith ys i))) (hw0 : ∀ v, D v → wayI v = v ∧ 0 ≤ v) :
    ∀ (f i : Nat) (xs : List Int), Turned D ys xs → i ≤ n → n < i + f → (∀ j, j < i → 0 ≤ wayI (ith xs j)) →
      Turned D ys (restF n e sos eos f i xs) ∧ ∀ j, j < n → 0 ≤ wayI (ith (restF n e sos eos f i xs) j)
  | 0, i, xs, _, h1, h2, _ => by omega
  | f + 1, i, xs, h, hi, hf, hbe => by
    unfold restF
    split
    · rename_i hin
      split
      · rename_i hc
        exact restF_turned n e sos eos he hs ys hn hD hw0 f (i + 1) xs h (by omega) (by omega) (fun j hj => by
          by_cases e : j = i
          · subst e; exact hc
          · exact hbe j (by omega))
      · rename_i hc
        obtain ⟨h1, h2, h3, h4⟩ := runF_neutral xs (n - i) i
        have hgt : i + 1 ≤ runF xs (n - i) i := by
          obtain ⟨q, hq⟩ : ∃ q, n - i = q + 1 := ⟨n - i - 1, by omega⟩
          rw [hq, runF, if_pos (by omega)]
          exact (runF_neutral xs q (i + 1)).2.1
        generalize hj : runF xs (n - i) i = j at *
        have ha : D (if 0 < i then wayI (ith xs (i - 1)) else sos) := by
          split
          · rename_i h0
            have hb := hbe (i - 1) (by omega)
            by_cases hy : 0 ≤ wayI (ith ys (i - 1))
            · rw [h.keep (i - 1) (by omega) hy]; exact hD _ (by omega) hy
            · rcases h.turn (i - 1) (by omega) (by omega) with h5 | h5
              · rw [h5] at hb; omega
              · rw [(hw0 _ h5).1]; exact h5
          · exact hs
        have hfill : D (fillI n e sos eos i j xs) := by
          unfold fillI
          generalize (if 0 < i then wayI (ith xs (i - 1)) else sos) = av at ha
          generalize (if j < n then wayI (ith xs j) else eos) = bv
          split
          · exact ha
          · exact he
        have ht := fillF_turned _ hfill ys (j - i) i xs h (by omega) (fun x h5 h6 => h.was x (by omega) (h1 x h5 (by omega)))
        refine restF_turned n e sos eos he hs ys hn hD hw0 f j _ ht (by omega) (by omega) (fun x hx => ?_)
        rw [fillF_ith _ _ _ _ _ (by have := h.len; omega)]
        split
        · rw [(hw0 _ hfill).1]; exact (hw0 _ hfill).2
        · exact hbe x (by omega)
    · exact ⟨h, fun j hj => hbe j (by omega)⟩

/-- what pair.Resolve answers: as long as the shorter list; nothing in it is neutral; what had a direction has it; what had none has one that D allows -/
theorem resolveF_turned {D : Int → Prop} (rs ks : List Int) (level sos eos : Int) (l : List (Nat × Nat)) (he : D (level % 2)) (hs : D (sideI sos)) (hw0 : ∀ v, D v → wayI v = v ∧ 0 ≤ v)
    (hD : ∀ i, i < min rs.length ks.length → 0 ≤ wayI (alI (ith ks i)) → D (wayI (alI (ith ks i))))
    (hl : l.Perm (brkF (rs.take (min rs.length ks.length)) (alF (min rs.length ks.length) 0 (ks.take (min rs.length ks.length))) (min rs.length ks.length) 0 [] [])) :
    Turned D (alF (min rs.length ks.length) 0 (ks.take (min rs.length ks.length))) (resolveF rs ks level sos eos l) ∧ ∀ j, j < min rs.length ks.length → 0 ≤ wayI (ith (resolveF rs ks level sos eos l) j) := by
  generalize hM : min rs.length ks.length = M at *
  have hlen : (ks.take M).length = M := by simp; omega
  have hyl := (alF_ith M 0 (ks.take M) 0 (by omega)).2
  have hyi : ∀ j, j < M → ith (alF M 0 (ks.take M)) j = alI (ith ks j) := fun j hj => by
    rw [(alF_ith M 0 (ks.take M) j (by omega)).1, if_pos (by omega)]
    congr 1
    unfold ith; rw [List.getD_eq_getElem?_getD, List.getD_eq_getElem?_getD, List.getElem?_take, if_pos hj]
  have hf := (brkF_all (rs.take M) (alF M 0 (ks.take M)) M).perm hl
  generalize hY : alF M 0 (ks.take M) = ys at *
  rw [hlen] at hyl
  have hDy : ∀ i, i < ys.length → 0 ≤ wayI (ith ys i) → D (wayI (ith ys i)) := fun i hi hw => by
    rw [hyi i (by omega)] at hw ⊢; exact hD i (by omega) hw
  have hw13 : wayI 13 < 0 := by decide
  have h1 := resF_turned rs M (level % 2) he ys hyl hDy hw0 l 0 (sideI sos) ys (fun p hp => ⟨(hf.ok p hp).1, (hf.ok p hp).2.1, by rw [(hf.ok p hp).2.2.1]; exact hw13, by rw [(hf.ok p hp).2.2.2.1]; exact hw13⟩) (by omega) hs (Turned.refl D ys)
  have h2 := restF_turned M (level % 2) (sideI sos) (sideI eos) he hs ys hyl hDy hw0 (M + 1) 0 _ h1 (by omega) (by omega) (fun j hj => by omega)
  have e : resolveF rs ks level sos eos l = restF M (level % 2) (sideI sos) (sideI eos) (M + 1) 0 (resF rs M (level % 2) l 0 (sideI sos) ys) := by
    unfold resolveF; rw [hM, hY]
  rw [e]; exact h2
end Go.Proofs.Ytbhhebheclfdlaa
