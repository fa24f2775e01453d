/- Plain laws of layer 9: the document's own way to the directions (flags, a look from the beginning, the rest read off the old list) comes to the same as the code's. No program is in sight. -/
import Derived.Test.YtgalccfhofimaaaPlain09D
namespace Go.Proofs.Ytgalccfhofimaaa
set_option linter.unusedVariables false
set_option linter.unusedSimpArgs false

def sameF (xs : List Int) (e : Int) : Nat → Nat → Bool
  | 0, _ => false
  | m + 1, i => decide (wayI (ith xs i) = e) || sameF xs e m (i + 1)
def otherF (xs : List Int) (e : Int) : Nat → Nat → Bool
  | 0, _ => false
  | m + 1, i => (decide (0 ≤ wayI (ith xs i)) && decide (wayI (ith xs i) ≠ e)) || otherF xs e m (i + 1)
theorem decF_flags (xs : List Int) (e ahead : Int) (he : 0 ≤ e) : ∀ (m i : Nat) (acc : Int), decF xs e ahead m i acc = if sameF xs e m i = true then e else if otherF xs e m i = true then ahead else acc
  | 0, i, acc => by simp [decF, sameF, otherF]
  | m + 1, i, acc => by
    have hv := wayI_val (ith xs i)
    unfold decF sameF otherF
    by_cases h1 : wayI (ith xs i) = e
    · rw [if_pos h1]; simp [h1]
    · rw [if_neg h1]
      by_cases h2 : wayI (ith xs i) = -1
      · rw [if_pos h2, decF_flags xs e ahead he m (i + 1) acc]
        have h3 : decide (wayI (ith xs i) = e) = false := decide_eq_false h1
        have h4 : decide (0 ≤ wayI (ith xs i)) = false := decide_eq_false (by omega)
        rw [h3, h4]; simp only [Bool.false_or, Bool.false_and]
      · rw [if_neg h2, decF_flags xs e ahead he m (i + 1) ahead]
        have h3 : decide (wayI (ith xs i) = e) = false := decide_eq_false h1
        have h4 : decide (0 ≤ wayI (ith xs i)) = true := decide_eq_true (by omega)
        have h5 : decide (wayI (ith xs i) ≠ e) = true := decide_eq_true h1
        rw [h3, h4, h5]; simp only [Bool.false_or, Bool.true_and, Bool.true_or, if_true]
        by_cases h6 : sameF xs e m (i + 1) = true
        · rw [if_pos h6, if_pos h6]
        · rw [if_neg h6, if_neg h6]; split <;> rfl
/-- the pairs, one behind the other, each with a look from the beginning -/
def rresF (rs : List Int) (n : Nat) (e sos : Int) : List (Nat × Nat) → List Int → List Int
  | [], out => out
  | p :: ps, out =>
    if decI out p.1 p.2 e (aheadF out p.1 0 sos) < 0 then rresF rs n e sos ps out
    else rresF rs n e sos ps (markF rs n (decI out p.1 p.2 e (aheadF out p.1 0 sos)) p.2 (markF rs n (decI out p.1 p.2 e (aheadF out p.1 0 sos)) p.1 out))
theorem ith_set_ne (l : List Int) (i j : Nat) (v : Int) (h : i ≠ j) : ith (l.set i v) j = ith l j := by
  unfold ith
  rw [List.getD_eq_getElem?_getD, List.getElem?_set_ne h, ← List.getD_eq_getElem?_getD]
theorem spreadF_low (rs : List Int) (k : Int) : ∀ (m i : Nat) (out : List Int) (j : Nat), j < i → ith (spreadF rs k m i out) j = ith out j
  | 0, i, out, j, h => rfl
  | m + 1, i, out, j, h => by
    unfold spreadF
    split
    · rw [spreadF_low rs k m (i + 1) _ j (by omega), ith_set_ne _ _ _ _ (by omega)]
    · rfl
theorem markF_low (rs : List Int) (n : Nat) (k : Int) (b : Nat) (out : List Int) (j : Nat) (h : j < b) : ith (markF rs n k b out) j = ith out j := by
  unfold markF
  rw [spreadF_low rs k _ _ _ j (by omega), ith_set_ne _ _ _ _ (by omega)]
theorem aheadF_add (out : List Int) : ∀ (a b i : Nat) (x : Int), aheadF out (a + b) i x = aheadF out b (i + a) (aheadF out a i x)
  | 0, b, i, x => by rw [Nat.zero_add]; rfl
  | a + 1, b, i, x => by
    have st : ∀ (m i : Nat) (x : Int), aheadF out (m + 1) i x = if 0 ≤ wayI (ith out i) then aheadF out m (i + 1) (wayI (ith out i)) else aheadF out m (i + 1) x := fun _ _ _ => rfl
    rw [show a + 1 + b = (a + b) + 1 by omega, st, st, show i + (a + 1) = i + 1 + a by omega]
    split
    · exact aheadF_add out a b (i + 1) _
    · exact aheadF_add out a b (i + 1) _
theorem resF_eq (rs : List Int) (n : Nat) (e sos : Int) : ∀ (l : List (Nat × Nat)) (at' : Nat) (ahead : Int) (out : List Int), l.Pairwise (fun a b => a.1 ≤ b.1) → (∀ p ∈ l, at' ≤ p.1 ∧ p.1 < p.2) → ahead = aheadF out at' 0 sos →
    resF rs n e l at' ahead out = rresF rs n e sos l out
  | [], at', ahead, out, _, _, _ => rfl
  | p :: ps, at', ahead, out, hs, hp, ha => by
    have h0 := hp p (by simp)
    have hA : aheadF out (p.1 - at') at' ahead = aheadF out p.1 0 sos := by
      rw [ha]
      have := aheadF_add out at' (p.1 - at') 0 sos
      rw [Nat.zero_add, show at' + (p.1 - at') = p.1 by omega] at this
      exact this.symm
    have hrest : ∀ q ∈ ps, at' + (p.1 - at') ≤ q.1 ∧ q.1 < q.2 := fun q hq => by
      have h1 := (List.pairwise_cons.1 hs).1 q hq
      have h2 := hp q (by simp [hq])
      omega
    unfold resF rresF
    rw [hA]
    split
    · exact resF_eq rs n e sos ps _ _ out (List.pairwise_cons.1 hs).2 hrest (by rw [show at' + (p.1 - at') = p.1 by omega])
    · refine resF_eq rs n e sos ps _ _ _ (List.pairwise_cons.1 hs).2 hrest ?_
      rw [show at' + (p.1 - at') = p.1 by omega]
      refine aheadF_congr _ _ p.1 (fun j hj => ?_) p.1 0 sos (by omega)
      rw [markF_low _ _ _ _ _ _ (by omega), markF_low _ _ _ _ _ _ hj]

def wyI (k : Int) : Int := if k = 0 then 0 else 1
theorem wyI_way {k : Int} (h : 0 ≤ wayI k) : wyI k = wayI k := by
  unfold wyI wayI at *
  split
  · rfl
  · rename_i h0
    rw [if_neg h0] at h
    split at h
    · rename_i h1; rw [if_pos h1]
    · omega
def fillR (n : Nat) (e sos eos : Int) (i j : Nat) (xs : List Int) : Int :=
  if (if 0 < i then wyI (ith xs (i - 1)) else sos) = (if j < n then wyI (ith xs j) else eos) then (if 0 < i then wyI (ith xs (i - 1)) else sos) else e
def restR (n : Nat) (e sos eos : Int) (xs : List Int) : Nat → Nat → List Int → List Int
  | 0, _, out => out
  | f + 1, i, out =>
    if i < n then
      if 0 ≤ wayI (ith xs i) then restR n e sos eos xs f (i + 1) out
      else restR n e sos eos xs f (runF xs (n - i) i) (fillF (fillR n e sos eos i (runF xs (n - i) i) xs) (runF xs (n - i) i - i) i out)
    else out
theorem runF_congr (a b : List Int) : ∀ (m i : Nat), (∀ j, i ≤ j → ith a j = ith b j) → runF a m i = runF b m i
  | 0, i, _ => rfl
  | m + 1, i, h => by
    unfold runF
    rw [h i (by omega), runF_congr a b m (i + 1) (fun j hj => h j (by omega))]
theorem fillF_high (k : Int) : ∀ (m i : Nat) (out : List Int) (j : Nat), i + m ≤ j → ith (fillF k m i out) j = ith out j
  | 0, i, out, j, _ => rfl
  | m + 1, i, out, j, h => by
    unfold fillF
    rw [fillF_high k m (i + 1) _ j (by omega), ith_set_ne _ _ _ _ (by omega)]
theorem restR_eq (n : Nat) (e sos eos : Int) (xs : List Int) : ∀ (f i : Nat) (out : List Int), (∀ j, i ≤ j → ith out j = ith xs j) → (i = 0 ∨ n ≤ i ∨ 0 ≤ wayI (ith xs i) ∨ (0 ≤ wayI (ith xs (i - 1)) ∧ ith out (i - 1) = ith xs (i - 1))) →
    restF n e sos eos f i out = restR n e sos eos xs f i out
  | 0, i, out, _, _ => rfl
  | f + 1, i, out, hj, hi => by
    unfold restF restR
    by_cases hn : i < n
    · rw [if_pos hn, if_pos hn, hj i (by omega)]
      by_cases hw : 0 ≤ wayI (ith xs i)
      · rw [if_pos hw, if_pos hw]
        refine restR_eq n e sos eos xs f (i + 1) out (fun j h => hj j (by omega)) (.inr (.inr (.inr ⟨?_, ?_⟩)))
        · rw [Nat.add_sub_cancel]; exact hw
        · rw [Nat.add_sub_cancel]; exact hj i (by omega)
      · rw [if_neg hw, if_neg hw]
        have hr := runF_neutral xs (n - i) i
        have e1 : runF out (n - i) i = runF xs (n - i) i := runF_congr _ _ _ _ (fun j h => hj j h)
        rw [e1]
        have hprev : 0 < i → wayI (ith out (i - 1)) = wyI (ith xs (i - 1)) := fun h0 => by
          rcases hi with h | h | h | h
          · omega
          · omega
          · exact absurd h hw
          · rw [h.2, wyI_way h.1]
        have hnext : runF xs (n - i) i < n → wayI (ith out (runF xs (n - i) i)) = wyI (ith xs (runF xs (n - i) i)) := fun h0 => by
          rw [hj _ (by omega), wyI_way (hr.2.2.2 (by omega))]
        have e2 : fillI n e sos eos i (runF xs (n - i) i) out = fillR n e sos eos i (runF xs (n - i) i) xs := by
          unfold fillI fillR
          have a1 : (if 0 < i then wayI (ith out (i - 1)) else sos) = (if 0 < i then wyI (ith xs (i - 1)) else sos) := by
            by_cases h0 : 0 < i
            · rw [if_pos h0, if_pos h0, hprev h0]
            · rw [if_neg h0, if_neg h0]
          have a2 : (if runF xs (n - i) i < n then wayI (ith out (runF xs (n - i) i)) else eos) = (if runF xs (n - i) i < n then wyI (ith xs (runF xs (n - i) i)) else eos) := by
            by_cases h0 : runF xs (n - i) i < n
            · rw [if_pos h0, if_pos h0, hnext h0]
            · rw [if_neg h0, if_neg h0]
          rw [a1, a2]
        rw [e2]
        refine restR_eq n e sos eos xs f _ _ (fun j h => ?_) ?_
        · rw [fillF_high _ _ _ _ _ (by omega)]; exact hj j (by omega)
        · by_cases h0 : runF xs (n - i) i < n
          · exact .inr (.inr (.inl (hr.2.2.2 (by omega))))
          · exact .inr (.inl (by omega))
    · rw [if_neg hn, if_neg hn]
theorem alF_map (M : Nat) (xs : List Int) (h : xs.length = M) : alF M 0 xs = xs.map alI := by
  have hl : (alF M 0 xs).length = xs.length := by
    by_cases h0 : M = 0
    · subst h0; rfl
    · exact (alF_ith M 0 xs 0 (by omega)).2
  refine ith_extP (by rw [hl, List.length_map]) fun i hi => ?_
  rw [(alF_ith M 0 xs i (by omega)).1, if_pos (by omega)]
  unfold ith
  rw [List.getD_eq_getElem?_getD, List.getD_eq_getElem?_getD, List.getElem?_map, List.getElem?_eq_getElem (by omega)]
  rfl
end Go.Proofs.Ytgalccfhofimaaa
