/- Plain laws of a line's paragraphs: parted behind a paragraph's end the levels are the two parts'. -/
import Derived.Test.YtbhhebheclfdlaaVisC
import Derived.Laws.BytesArg
import Derived.Lib.BufferRead
namespace Go.Proofs.Ytbhhebheclfdlaa
set_option linter.unusedVariables false
set_option linter.unusedSimpArgs false
open Go.RowKit

theorem para_pos (ds : List Int) (h : ds ≠ []) : 0 < paraLen ds ∧ paraLen ds ≤ ds.length := by
  have hl : 0 < ds.length := List.length_pos_iff.2 h
  have hb := idxF_bd ds 10 ds.length 0
  rw [para_len]
  split
  · omega
  · rcases hb with h | h
    · contradiction
    · omega
theorem lines_out (base : Nat) : ∀ (f : Nat) (cs : List Int) (out : List Nat), linesF base f cs out = out ++ linesF base f cs []
  | 0, cs, out => by rw [linesF, linesF, List.append_nil]
  | f + 1, cs, out => by
    rw [linesF]
    conv => rhs; rw [linesF]
    by_cases h : cs = []
    · rw [if_pos h, if_pos h, List.append_nil]
    · rw [if_neg h, if_neg h, lines_out base f _ (out ++ _), lines_out base f _ ([] ++ _), List.nil_append, List.append_assoc]
theorem lines_fuel (base : Nat) : ∀ (f : Nat) (cs : List Int) (g : Nat), cs.length ≤ f → cs.length ≤ g → linesF base f cs [] = linesF base g cs []
  | 0, cs, g, h, h' => by
    have : cs = [] := List.eq_nil_of_length_eq_zero (by omega)
    subst this
    cases g with
    | zero => rfl
    | succ g => rw [linesF, linesF, if_pos rfl]
  | f + 1, cs, g, h, h' => by
    by_cases hc : cs = []
    · subst hc
      cases g with
      | zero => rw [linesF, linesF, if_pos rfl]
      | succ g => rw [linesF, linesF, if_pos rfl, if_pos rfl]
    · have hl : 0 < cs.length := List.length_pos_iff.2 hc
      obtain ⟨g', rfl⟩ : ∃ g', g = g' + 1 := ⟨g - 1, by omega⟩
      have hp := para_pos (cs.map dirI) (by simpa using hc)
      rw [List.length_map] at hp
      rw [linesF, linesF, if_neg hc, if_neg hc, lines_out base f, lines_out base g']
      congr 1
      exact lines_fuel base f _ g' (by rw [List.length_drop]; omega) (by rw [List.length_drop]; omega)
theorem find_append (a b : List Int) (h : (10 : Int) ∈ a) : (a ++ b).findIdx? (fun d => d == 10) = a.findIdx? (fun d => d == 10) ∧ (a.findIdx? (fun d => d == 10)).isSome = true := by
  induction a with
  | nil => simp at h
  | cons x t ih =>
    rw [List.cons_append, List.findIdx?_cons, List.findIdx?_cons]
    by_cases hx : x = 10
    · have : (x == 10) = true := by simpa using hx
      rw [this]
      exact ⟨rfl, rfl⟩
    · have hb : (x == 10) = false := by simpa using hx
      have ht : (10 : Int) ∈ t := by
        rcases List.mem_cons.1 h with e | e
        · exact absurd e.symm hx
        · exact e
      obtain ⟨i1, i2⟩ := ih ht
      rw [hb, i1]
      refine ⟨rfl, ?_⟩
      cases ho : t.findIdx? (fun d => d == 10) with
      | none => rw [ho] at i2; cases i2
      | some j => rfl
theorem para_append (a b : List Int) (h : (10 : Int) ∈ a) : paraLen (a ++ b) = paraLen a := by
  have hf := find_append a b h
  unfold paraLen
  rw [hf.1]
  cases ho : a.findIdx? (fun d => d == 10) with
  | none => rw [ho] at hf; cases hf.2
  | some j => rfl
/-- the levels of two parts -/
theorem lines_split (base : Nat) (B : List Int) : ∀ (n : Nat) (A : List Int), A.length ≤ n → (A = [] ∨ dirI (A.getLastD 0) = 10) →
    linesF base (A ++ B).length (A ++ B) [] = linesF base A.length A [] ++ linesF base B.length B []
  | 0, A, hn, h => by
    have : A = [] := List.eq_nil_of_length_eq_zero (by omega)
    subst this
    simp [linesF]
  | n + 1, A, hn, h => by
    by_cases hA : A = []
    · subst hA
      simp [linesF]
    · have hlast : dirI (A.getLastD 0) = 10 := h.resolve_left hA
      have hl : 0 < A.length := List.length_pos_iff.2 hA
      have hmem : (10 : Int) ∈ A.map dirI := by
        rw [← hlast]
        refine List.mem_map.2 ⟨A.getLastD 0, ?_, rfl⟩
        rw [List.getLastD_eq_getLast?, List.getLast?_eq_getElem?, List.getElem?_eq_getElem (by omega)]
        exact List.getElem_mem _
      have hp := para_pos (A.map dirI) (by simpa using hA)
      rw [List.length_map] at hp
      obtain ⟨q, hq⟩ : ∃ q, paraLen (A.map dirI) = q := ⟨_, rfl⟩
      rw [hq] at hp
      have hq2 : paraLen ((A ++ B).map dirI) = q := by rw [List.map_append, para_append _ _ hmem, hq]
      have hAB : A ++ B ≠ [] := by simp [hA]
      obtain ⟨f1, hf1⟩ : ∃ f1, (A ++ B).length = f1 + 1 := ⟨(A ++ B).length - 1, by rw [List.length_append]; omega⟩
      obtain ⟨f2, hf2⟩ : ∃ f2, A.length = f2 + 1 := ⟨A.length - 1, by omega⟩
      rw [hf1, hf2, linesF, if_neg hAB, hq2]
      conv => rhs; rw [linesF]
      rw [if_neg hA, hq, lines_out base f1, lines_out base f2]
      simp only [List.nil_append, List.append_assoc]
      have e1 : (A ++ B).take q = A.take q := List.take_append_of_le_length hp.2
      have e2 : (A ++ B).drop q = A.drop q ++ B := List.drop_append_of_le_length hp.2
      rw [e1, e2]
      congr 1
      have hd : (A.drop q) = [] ∨ dirI ((A.drop q).getLastD 0) = 10 := by
        rcases Nat.lt_or_ge q A.length with hlt | hge
        · right
          rw [List.getLastD_eq_getLast?, List.getLast?_drop, if_neg (by omega), ← List.getLastD_eq_getLast?]
          exact hlast
        · left; exact List.drop_eq_nil_iff.2 hge
      have ih := lines_split base B n (A.drop q) (by rw [List.length_drop]; omega) hd
      rw [List.length_append] at hf1
      rw [lines_fuel base f1 (A.drop q ++ B) (A.drop q ++ B).length (by rw [List.length_append, List.length_drop]; omega) (Nat.le_refl _), ih]
      rw [lines_fuel base f2 (A.drop q) (A.drop q).length (by rw [List.length_drop]; omega) (Nat.le_refl _)]
theorem base_forced (ds : List Int) : baseI ds 1 = 0 ∧ baseI ds 2 = 1 := by
  unfold baseI
  exact ⟨by rw [baseF, if_pos rfl], by rw [baseF, if_neg (by decide), if_pos rfl]⟩
/-- parted at a place that is a line's end or stands behind a paragraph's end -/
theorem visual_split (cs : List Int) (want : Int) (at' : Nat) (h : at' ≤ cs.length) (hb : at' = cs.length ∨ at' = 0 ∨ dirI (ith cs (at' - 1)) = 10) (as' : Int) (ha : as' = if (visualI cs want).2 = 1 then 2 else 1) :
    (visualI cs want).1 = (visualI (cs.take at') as').1 ++ (visualI (cs.drop at') as').1 := by
  have hb2 : (visualI cs want).2 = baseI (cs.map dirI) want := rfl
  have hbb := baseF_bd want ((cs.map dirI).length + 1) (cs.map dirI)
  obtain ⟨b, hbn⟩ : ∃ b : Nat, baseI (cs.map dirI) want = b ∧ b ≤ 1 := ⟨(baseI (cs.map dirI) want).toNat, by rcases hbb with h | h <;> (unfold baseI; omega), by rcases hbb with h | h <;> (unfold baseI; omega)⟩
  have hbas : ∀ ds : List Int, (baseI ds as').toNat = b := fun ds => by
    rw [ha, hb2, hbn.1]
    by_cases h1 : b = 1
    · rw [if_pos (by omega), (base_forced ds).2, h1]; rfl
    · have h0 : b = 0 := by omega
      rw [if_neg (by omega), (base_forced ds).1, h0]; rfl
  have e : ∀ (l : List Int) (wn : Int), (baseI (l.map dirI) wn).toNat = b → (visualI l wn).1 = linesF b l.length l [] := fun l wn hw => by unfold visualI; rw [hw]
  rw [e cs want (by rw [hbn.1]; rfl), e _ as' (hbas _), e _ as' (hbas _)]
  have hsplit : cs = cs.take at' ++ cs.drop at' := (List.take_append_drop at' cs).symm
  have hborder : (cs.take at' = [] ∨ dirI ((cs.take at').getLastD 0) = 10) ∨ cs.drop at' = [] := by
    rcases hb with h1 | h1 | h1
    · exact .inr (List.drop_eq_nil_iff.2 (by omega))
    · exact .inl (.inl (by rw [h1]; rfl))
    · rcases Nat.eq_zero_or_pos at' with h0 | h0
      · exact .inl (.inl (by rw [h0]; rfl))
      · refine .inl (.inr ?_)
        rw [← h1]
        congr 1
        rw [List.getLastD_eq_getLast?, List.getLast?_eq_getElem?, List.length_take, Nat.min_eq_left h, List.getElem?_take, if_pos (by omega), ith, List.getD_eq_getElem?_getD]
  rcases hborder with hbd | hbd
  · conv => lhs; rw [hsplit]
    exact lines_split b (cs.drop at') _ (cs.take at') (Nat.le_refl _) hbd
  · rw [hbd]
    have : cs.take at' = cs := by conv => rhs; rw [hsplit, hbd, List.append_nil]
    rw [this]
    simp [linesF]
end Go.Proofs.Ytbhhebheclfdlaa
