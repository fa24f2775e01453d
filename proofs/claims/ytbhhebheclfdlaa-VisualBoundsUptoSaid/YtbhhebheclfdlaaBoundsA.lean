/- Plain laws of layer 10: a line's levels lie between its base and 126; a paragraph's end has the base; a plain line has 0 all through; what a row has. No program is in sight. -/
import Derived.Test.YtbhhebheclfdlaaPartsA
import Derived.Test.YtbhhebheclfdlaaVisE
import Derived.Test.YtbhhebheclfdlaaPlainLev
import Derived.Test.YtbhhebheclfdlaaPlainRuns
import Derived.Test.YtbhhebheclfdlaaPlain09C
namespace Go.Proofs.Ytbhhebheclfdlaa
set_option linter.unusedVariables false
set_option linter.unusedSimpArgs false

theorem nset_getD (l : List Nat) (i j v : Nat) (h : i < l.length) : (l.set i v).getD j 0 = if i = j then v else l.getD j 0 := by
  rw [List.getD_eq_getElem?_getD, List.getElem?_set, List.getD_eq_getElem?_getD]
  by_cases e : i = j
  · subst e; rw [if_pos rfl, if_pos h, if_pos rfl]; rfl
  · rw [if_neg e, if_neg e]
theorem nget_mem (l : List Nat) (i : Nat) (h : i < l.length) : l.getD i 0 ∈ l := by
  rw [List.getD_eq_getElem?_getD, List.getElem?_eq_getElem h]; simp

/-! The pile: no state below the base. -/
def LPile.Hi (P : LPile) (b : Nat) : Prop := ∀ s ∈ P.states, b ≤ s.level
theorem LPile.Hi.top {P : LPile} {i b : Nat} (h : P.Ok i) (hh : P.Hi b) : b ≤ P.top.level := hh _ (P.top_mem h.ne)
theorem LPile.popTo_mem : ∀ (n : Nat) (P : LPile) (s : LSt), s ∈ (LPile.popTo n P).states → s ∈ P.states
  | 0, P, s, h => h
  | n + 1, P, s, h => by
    rw [LPile.popTo] at h
    split at h
    · exact h
    · exact P.pop_mem (LPile.popTo_mem n P.pop s h)
theorem LPile.close_mem (P : LPile) (s : LSt) (h : s ∈ P.close.states) : s ∈ P.states := by
  unfold LPile.close at h
  split at h
  · exact h
  split at h
  · have h1 : s ∈ (LPile.popTo P.states.length { P with emb := 0 }).states := LPile.pop_mem _ h
    exact LPile.popTo_mem _ { P with emb := 0 } s h1
  · exact h
theorem LPile.fin_mem (P : LPile) (s : LSt) (h : s ∈ P.fin.states) : s ∈ P.states := by
  unfold LPile.fin at h
  split at h
  · exact h
  split at h
  · exact h
  split at h
  · exact P.pop_mem h
  · exact h
theorem LPile.next_ge (P : LPile) (odd : Bool) : P.top.level ≤ P.next odd := by
  unfold LPile.next
  split <;> omega
theorem LPile.Hi.laid {P : LPile} {i b : Nat} (h : P.Ok i) (hh : P.Hi b) (odd : Bool) (over : Int) (iso : Bool) : (P.lay odd over iso).Hi b := by
  unfold LPile.lay
  split
  · intro s hs
    rw [List.mem_append, List.mem_singleton] at hs
    rcases hs with hs | rfl
    · exact hh s hs
    · have := P.next_ge odd
      have := LPile.Hi.top h hh
      show b ≤ P.next odd
      omega
  · exact hh
theorem LPile.Hi.step {P : LPile} {i b base : Nat} (h : P.Ok i) (hh : P.Hi b) (hb : b ≤ base) (ds : List Int) (j : Nat) :
    (P.step base ds j).1.Hi b ∧ b ≤ (P.step base ds j).2.1 := by
  have ht := LPile.Hi.top h hh
  unfold LPile.step
  simp only
  split
  · refine ⟨?_, ht⟩
    unfold LPile.embed
    simp only
    split
    · exact LPile.Hi.laid h hh _ _ _
    split
    · exact hh
    · exact hh
  split
  · have key : ∀ odd, LPile.Hi (if P.room odd = true then { P.lay odd (-1) true with opn := P.opn + 1 } else { P with deep := P.deep + 1 }) b := fun odd => by
      split
      · exact fun s hs => LPile.Hi.laid h hh odd (-1) true s hs
      · exact fun s hs => hh s hs
    exact ⟨key _, ht⟩
  split
  · have hc : P.close.Hi b := fun s hs => hh s (P.close_mem s hs)
    exact ⟨hc, LPile.Hi.top h.close hc⟩
  split
  · have hc : P.fin.Hi b := fun s hs => hh s (P.fin_mem s hs)
    exact ⟨hc, LPile.Hi.top h.fin hc⟩
  split
  · exact ⟨hh, ht⟩
  split
  · refine ⟨fun s hs => ?_, hb⟩
    rw [List.mem_singleton] at hs
    subst hs
    exact hb
  · exact ⟨hh, ht⟩
theorem levF_ge (base b : Nat) (hb : base ≤ 125) (hbb : b ≤ base) (ds : List Int) : ∀ (m i : Nat) (P : LPile) (ls : List Nat) (ks : List Int), P.Ok i → P.Hi b → (∀ l ∈ ls, b ≤ l) → ∀ l ∈ (levF base ds m i P ls ks).1, b ≤ l
  | 0, i, P, ls, ks, h, hh, h3 => h3
  | m + 1, i, P, ls, ks, h, hh, h3 => by
    rw [levF]
    have hs := LPile.Hi.step h hh hbb ds i
    refine levF_ge base b hb hbb ds m (i + 1) _ _ _ (h.step base hb ds i) hs.1 fun l hl => ?_
    rw [List.mem_append, List.mem_singleton] at hl
    rcases hl with hl | rfl
    · exact h3 l hl
    · exact hs.2
theorem levI_ge (ds : List Int) (base : Nat) (hb : base ≤ 125) : ∀ l ∈ (levI ds base).1, base ≤ l := by
  have e : min base 125 = base := by omega
  unfold levI
  rw [e]
  refine levF_ge base base hb (Nat.le_refl _) ds ds.length 0 _ [] [] (LPile.begin_ok _ 0 hb) (fun s hs => ?_) (fun l hl => by simp at hl)
  rw [List.mem_singleton] at hs
  subst hs
  exact Nat.le_refl _

/-! Every place that is not left out lies in a run. -/
theorem RSt.put_mem (s : RSt) (k i : Nat) (last : Int) (g : List (Nat × Nat)) (hk : k ≤ s.out.length) :
    (∀ p, (∃ r ∈ s.out, p ∈ r) → ∃ r ∈ (s.put k i last g).out, p ∈ r) ∧ ∃ r ∈ (s.put k i last g).out, i ∈ r := by
  unfold RSt.put
  simp only
  split
  · rename_i hlt
    refine ⟨fun p hp => ?_, s.out.getD k [] ++ [i], List.mem_iff_getElem.2 ⟨k, by rw [List.length_set]; exact hlt, by rw [List.getElem_set_self]⟩, by simp⟩
    obtain ⟨r, hr, hpr⟩ := hp
    obtain ⟨j, hj, rfl⟩ := List.mem_iff_getElem.1 hr
    by_cases e : k = j
    · subst e
      refine ⟨s.out.getD k [] ++ [i], List.mem_iff_getElem.2 ⟨k, by rw [List.length_set]; exact hlt, by rw [List.getElem_set_self]⟩, ?_⟩
      rw [List.getD_eq_getElem?_getD, List.getElem?_eq_getElem hj]
      exact List.mem_append_left _ hpr
    · exact ⟨s.out[j], List.mem_iff_getElem.2 ⟨j, by rw [List.length_set]; exact hj, by rw [List.getElem_set_ne e]⟩, hpr⟩
  · refine ⟨fun p hp => ?_, [i], by simp, by simp⟩
    obtain ⟨r, hr, hpr⟩ := hp
    exact ⟨r, List.mem_append_left _ hr, hpr⟩
theorem runsF_cover (ds ls ps : List Int) : ∀ (m i : Nat) (s : RSt), s.Ok i → (∀ p, p < i → leftB (lkn (ith ds p)) = false → ∃ r ∈ s.out, p ∈ r) →
    ∀ p, p < i + m → leftB (lkn (ith ds p)) = false → ∃ r ∈ (runsF ds ls ps m i s).out, p ∈ r
  | 0, i, s, h, hc => hc
  | m + 1, i, s, h, hc => by
    intro p hp hl
    rw [runsF]
    refine runsF_cover ds ls ps m (i + 1) _ (h.step ds ls ps) (fun q hq hql => ?_) p (by omega) hl
    rw [h.step_put ds ls ps]
    split
    · rename_i hlb
      refine hc q ?_ hql
      rcases Nat.lt_or_ge q i with h' | h'
      · exact h'
      · have : q = i := by omega
        subst this
        rw [hlb] at hql
        cases hql
    · have hm := RSt.put_mem s (s.pick ls ps i) i (if lkn (ith ds i) = 10 then -1 else i) (s.gone ds ps i (s.pick ls ps i)) (h.pick_le ls ps)
      rcases Nat.lt_or_ge q i with h' | h'
      · exact hm.1 q (hc q h' hql)
      · have : q = i := by omega
        subst this
        exact hm.2
theorem runsI_cover (ds ls : List Int) (hl : ls.length = ds.length) (p : Nat) (hp : p < ds.length) (hlb : leftB (lkn (ith ds p)) = false) : ∃ r ∈ runsI ds ls, p ∈ r := by
  unfold runsI
  simp only
  rw [hl, Nat.min_self, List.take_of_length_le (Nat.le_refl _)]
  exact runsF_cover ds ls _ ds.length 0 _ RSt.start_ok (fun q hq => by omega) p (by omega) hlb
theorem leftB_lkn (d : Int) : leftB (lkn d) = leftB d := by
  unfold lkn
  split
  · rename_i h
    have : leftB d = false := by
      unfold leftB
      simp only [Bool.or_eq_false_iff, Bool.and_eq_false_iff, decide_eq_false_iff_not]
      omega
    rw [this]; rfl
  · rfl

/-! What a run lays. -/
theorem layRun_get (x : Nat) (own : List Int) : ∀ (ps : List Nat) (i : Nat) (out : List Nat) (p : Nat), p < out.length →
    (p ∈ ps → ∃ j, i ≤ j ∧ j < i + ps.length ∧ (layRun x own ps i out).getD p 0 = x + upI x (ith own j)) ∧ (p ∉ ps → (layRun x own ps i out).getD p 0 = out.getD p 0)
  | [], i, out, p, h => ⟨fun hp => by simp at hp, fun _ => rfl⟩
  | q :: ps, i, out, p, h => by
    have ih := layRun_get x own ps (i + 1) (out.set q (x + upI x (ith own i))) p (by rw [List.length_set]; exact h)
    rw [layRun]
    by_cases hm : p ∈ ps
    · refine ⟨fun _ => ?_, fun hn => absurd (List.mem_cons_of_mem _ hm) hn⟩
      obtain ⟨j, h1, h2, h3⟩ := ih.1 hm
      exact ⟨j, by omega, by rw [List.length_cons]; omega, h3⟩
    · have hr := ih.2 hm
      by_cases e : q = p
      · subst e
        refine ⟨fun _ => ⟨i, Nat.le_refl _, by rw [List.length_cons]; omega, ?_⟩, fun hn => absurd List.mem_cons_self hn⟩
        rw [hr, nset_getD _ _ _ _ h, if_pos rfl]
      · refine ⟨fun hn => ?_, fun hn => ?_⟩
        · rcases List.mem_cons.1 hn with h' | h'
          · exact absurd h'.symm e
          · exact absurd h' hm
        · rw [hr, List.getD_eq_getElem?_getD, List.getElem?_set, if_neg e, ← List.getD_eq_getElem?_getD]
theorem runOut_len (cs ds : List Int) (ls : List Nat) (ks : List Int) (base : Nat) (run : List Nat) (out : List Nat) : (runOut cs ds ls ks base run out).length = out.length := by
  unfold runOut; exact layRun_len _ _ _ _ _
theorem foldRuns_get (V : Nat → Prop) (f : List Nat → List Nat → List Nat) (hlen : ∀ out run, (f out run).length = out.length) :
    ∀ (L : List (List Nat)), (∀ run ∈ L, ∀ out p, p < out.length → (p ∈ run → V ((f out run).getD p 0)) ∧ (p ∉ run → (f out run).getD p 0 = out.getD p 0)) →
    ∀ (out : List Nat), (L.foldl f out).length = out.length ∧ ∀ p, p < out.length → (V (out.getD p 0) ∨ (∃ run ∈ L, p ∈ run) → V ((L.foldl f out).getD p 0))
  | [], H, out => ⟨rfl, fun p hp h => by
      rcases h with h | ⟨r, hr, _⟩
      · exact h
      · simp at hr⟩
  | r :: L, H, out => by
    have ih := foldRuns_get V f hlen L (fun run hr => H run (List.mem_cons_of_mem _ hr)) (f out r)
    rw [List.foldl_cons]
    refine ⟨by rw [ih.1, hlen], fun p hp h => ih.2 p (by rw [hlen]; exact hp) ?_⟩
    have hr := H r List.mem_cons_self out p hp
    by_cases hm : p ∈ r
    · exact .inl (hr.1 hm)
    · rw [hr.2 hm]
      rcases h with h | ⟨r', hr', hp'⟩
      · exact .inl h
      · rcases List.mem_cons.1 hr' with e | e
        · subst e; exact absurd hp' hm
        · exact .inr ⟨r', e, hp'⟩
theorem tidyF_get (V : Nat → Prop) (ds : List Int) (base : Nat) (hV : V base) : ∀ (m i ahead : Nat) (out : List Nat), i + m ≤ out.length → V ahead →
    (∀ p, i ≤ p → p < i + m → leftB (ith ds p) = false → ith ds p ≠ 10 → V (out.getD p 0)) → ∀ p, (p < i → (tidyF ds base m i ahead out).getD p 0 = out.getD p 0) ∧
    (i ≤ p → p < i + m → V ((tidyF ds base m i ahead out).getD p 0) ∧ (ith ds p = 10 → (tidyF ds base m i ahead out).getD p 0 = base))
  | 0, i, ahead, out, hm, ha, H, p => ⟨fun _ => rfl, fun h1 h2 => by omega⟩
  | m + 1, i, ahead, out, hm, ha, H, p => by
    rw [tidyF]
    split
    · rename_i hl
      have hn10 : ith ds i ≠ 10 := fun e => by rw [e] at hl; revert hl; decide
      have ih := tidyF_get V ds base hV m (i + 1) ahead (out.set i ahead) (by rw [List.length_set]; omega) ha (fun q h1 h2 h3 h4 => by
        rw [nset_getD _ _ _ _ (by omega), if_neg (by omega)]; exact H q (by omega) (by omega) h3 h4) p
      refine ⟨fun hp => by rw [ih.1 (by omega), nset_getD _ _ _ _ (by omega), if_neg (by omega)], fun h1 h2 => ?_⟩
      rcases Nat.lt_or_ge i p with h' | h'
      · exact ih.2 (by omega) (by omega)
      · have : p = i := by omega
        subst this
        rw [ih.1 (by omega), nset_getD _ _ _ _ (by omega), if_pos rfl]
        exact ⟨ha, fun e => absurd e hn10⟩
    split
    · rename_i h10
      have ih := tidyF_get V ds base hV m (i + 1) base (out.set i base) (by rw [List.length_set]; omega) hV (fun q h1 h2 h3 h4 => by
        rw [nset_getD _ _ _ _ (by omega), if_neg (by omega)]; exact H q (by omega) (by omega) h3 h4) p
      refine ⟨fun hp => by rw [ih.1 (by omega), nset_getD _ _ _ _ (by omega), if_neg (by omega)], fun h1 h2 => ?_⟩
      rcases Nat.lt_or_ge i p with h' | h'
      · exact ih.2 (by omega) (by omega)
      · have : p = i := by omega
        subst this
        rw [ih.1 (by omega), nset_getD _ _ _ _ (by omega), if_pos rfl]
        exact ⟨hV, fun _ => rfl⟩
    · rename_i hl h10
      have hi := H i (Nat.le_refl _) (by omega) (by simpa using hl) h10
      have ih := tidyF_get V ds base hV m (i + 1) (out.getD i 0) out (by omega) hi (fun q h1 h2 h3 h4 => H q (by omega) (by omega) h3 h4) p
      refine ⟨fun hp => ih.1 (by omega), fun h1 h2 => ?_⟩
      rcases Nat.lt_or_ge i p with h' | h'
      · exact ih.2 (by omega) (by omega)
      · have : p = i := by omega
        subst this
        rw [ih.1 (by omega)]
        exact ⟨hi, fun e => absurd e h10⟩
/-- a paragraph: what each run lays is V, so all is -/
theorem para_get (V : Nat → Prop) (cs ds : List Int) (base : Nat) (hl : ds.length = cs.length) (hV : V base)
    (H : ∀ run ∈ runsI ds ((levI ds base).1.map Int.ofNat), ∀ j, j < run.length → V ((levI ds base).1.getD (run.getD 0 0) 0 + upI ((levI ds base).1.getD (run.getD 0 0) 0)
      (ith (resI (run.map (ith cs)) (weakF (run.map (ith (levI ds base).2)) (sidesI ds (levI ds base).1 base run).1) ((levI ds base).1.getD (run.getD 0 0) 0) (sidesI ds (levI ds base).1 base run).1 (sidesI ds (levI ds base).1 base run).2) j))) :
    (paraI cs ds base).length = cs.length ∧ ∀ p, p < cs.length → V ((paraI cs ds base).getD p 0) ∧ (ith ds p = 10 → (paraI cs ds base).getD p 0 = base) := by
  have hlk := levI_ok ds base
  have hf := foldRuns_get V (fun out run => runOut cs ds (levI ds base).1 (levI ds base).2 base run out) (fun out run => runOut_len _ _ _ _ _ _ _) (runsI ds ((levI ds base).1.map Int.ofNat)) (fun run hr out p hp => by
    have hg := layRun_get ((levI ds base).1.getD (run.getD 0 0) 0) (resI (run.map (ith cs)) (weakF (run.map (ith (levI ds base).2)) (sidesI ds (levI ds base).1 base run).1) ((levI ds base).1.getD (run.getD 0 0) 0) (sidesI ds (levI ds base).1 base run).1 (sidesI ds (levI ds base).1 base run).2) run 0 out p hp
    refine ⟨fun hm => ?_, fun hm => hg.2 hm⟩
    obtain ⟨j, h1, h2, h3⟩ := hg.1 hm
    show V ((layRun _ _ run 0 out).getD p 0)
    rw [h3]
    exact H run hr j (by omega)) (List.replicate cs.length 0)
  have hlen := hf.1
  rw [List.length_replicate] at hlen
  unfold paraI
  simp only
  refine ⟨by rw [tidyF_len, hlen], fun p hp => ?_⟩
  refine (tidyF_get V ds base hV ds.length 0 base _ (by rw [hlen]; omega) hV (fun q h1 h2 h3 h4 => ?_) p).2 (by omega) (by omega)
  refine hf.2 q (by rw [List.length_replicate]; omega) (.inr ?_)
  exact runsI_cover ds _ (by rw [List.length_map]; exact hlk.1) q (by omega) (by rw [leftB_lkn]; exact h3)
/-- a line: its paragraphs, one behind the other -/
theorem lines_get (V : Nat → Prop) (C : List Int → Prop) (base : Nat) (hC : ∀ cs k, C cs → C (cs.take k) ∧ C (cs.drop k))
    (H : ∀ cs, C cs → (paraI cs (cs.map dirI) base).length = cs.length ∧ ∀ p, p < cs.length → V ((paraI cs (cs.map dirI) base).getD p 0) ∧ (ith (cs.map dirI) p = 10 → (paraI cs (cs.map dirI) base).getD p 0 = base)) :
    ∀ (f : Nat) (cs : List Int), cs.length ≤ f → C cs → (linesF base f cs []).length = cs.length ∧
      ∀ p, p < cs.length → V ((linesF base f cs []).getD p 0) ∧ (dirI (ith cs p) = 10 → (linesF base f cs []).getD p 0 = base)
  | 0, cs, hf, hc => by
    have : cs = [] := List.eq_nil_of_length_eq_zero (by omega)
    subst this
    exact ⟨rfl, fun p hp => by simp at hp⟩
  | f + 1, cs, hf, hc => by
    rw [linesF]
    split
    · rename_i h
      subst h
      exact ⟨rfl, fun p hp => by simp at hp⟩
    · rename_i h
      have hk := para_pos (cs.map dirI) (by simpa using h)
      rw [List.length_map] at hk
      generalize hkk : paraLen (cs.map dirI) = k at *
      have h1 := H (cs.take k) (hC cs k hc).1
      have h2 := lines_get V C base hC H f (cs.drop k) (by rw [List.length_drop]; omega) (hC cs k hc).2
      have htl : (cs.take k).length = k := by rw [List.length_take]; omega
      rw [htl] at h1
      rw [List.length_drop] at h2
      rw [List.nil_append, lines_out]
      refine ⟨by rw [List.length_append, h1.1, h2.1]; omega, fun p hp => ?_⟩
      rcases Nat.lt_or_ge p k with hpk | hpk
      · have e : (paraI (cs.take k) ((cs.take k).map dirI) base ++ linesF base f (cs.drop k) []).getD p 0 = (paraI (cs.take k) ((cs.take k).map dirI) base).getD p 0 := by
          rw [List.getD_eq_getElem?_getD, List.getElem?_append_left (by rw [h1.1]; exact hpk), ← List.getD_eq_getElem?_getD]
        rw [e]
        have := h1.2 p hpk
        refine ⟨this.1, fun h10 => this.2 ?_⟩
        rw [← h10]
        unfold ith
        rw [List.getD_eq_getElem?_getD, List.getElem?_map, List.getElem?_take, if_pos hpk, List.getD_eq_getElem?_getD, List.getElem?_eq_getElem hp]
        rfl
      · have e : (paraI (cs.take k) ((cs.take k).map dirI) base ++ linesF base f (cs.drop k) []).getD p 0 = (linesF base f (cs.drop k) []).getD (p - k) 0 := by
          rw [List.getD_eq_getElem?_getD, List.getElem?_append_right (by rw [h1.1]; exact hpk), h1.1, ← List.getD_eq_getElem?_getD]
        rw [e]
        have := h2.2 (p - k) (by omega)
        have ei : ith (cs.drop k) (p - k) = ith cs p := by
          unfold ith
          rw [List.getD_eq_getElem?_getD, List.getElem?_drop, List.getD_eq_getElem?_getD, show k + (p - k) = p by omega]
        rw [ei] at this
        exact this

/-! Bounds. -/
theorem upI_bd (x : Nat) (k : Int) (h : x ≤ 125) : x + upI x k ≤ 126 := by
  unfold upI
  split
  · omega
  split
  · rename_i h1
    omega
  · omega
theorem para_bounds (cs : List Int) (base : Nat) (hb : base ≤ 125) :
    (paraI cs (cs.map dirI) base).length = cs.length ∧ ∀ p, p < cs.length → (base ≤ (paraI cs (cs.map dirI) base).getD p 0 ∧ (paraI cs (cs.map dirI) base).getD p 0 ≤ 126) ∧ (ith (cs.map dirI) p = 10 → (paraI cs (cs.map dirI) base).getD p 0 = base) := by
  refine para_get (fun y => base ≤ y ∧ y ≤ 126) cs (cs.map dirI) base (by simp) ⟨Nat.le_refl _, by omega⟩ (fun run hr j hj => ?_)
  have hlk := levI_ok (cs.map dirI) base
  have hge := levI_ge (cs.map dirI) base hb
  obtain ⟨h1, h2, h3⟩ := runsI_ok _ _ run hr
  have hp0 : run.getD 0 0 ∈ run := nget_mem run 0 (by omega)
  have hlt := h2 _ hp0
  simp only [List.length_map, hlk.1] at hlt
  have hm : (levI (cs.map dirI) base).1.getD (run.getD 0 0) 0 ∈ (levI (cs.map dirI) base).1 := nget_mem (levI (cs.map dirI) base).1 (run.getD 0 0) (by rw [hlk.1, List.length_map]; omega)
  have hgb := hge _ hm
  have h125 := hlk.2.2.1 _ hm
  exact ⟨Nat.le_trans hgb (Nat.le_add_right _ _), upI_bd _ _ h125⟩

/-! A plain line. -/
def Qk (k : Int) : Prop := k = 0 ∨ k = 7 ∨ k = 10 ∨ k = 11 ∨ k = 12 ∨ k = 13
def AllQ (l : List Int) : Prop := ∀ j, Qk (ith l j)
theorem ith_set_or (l : List Int) (i j : Nat) (v : Int) : ith (l.set i v) j = v ∨ ith (l.set i v) j = ith l j := by
  unfold ith
  rw [List.getD_eq_getElem?_getD, List.getElem?_set, List.getD_eq_getElem?_getD]
  by_cases e : i = j
  · subst e
    by_cases h : i < l.length
    · left; simp [h]
    · right; simp [h]
  · right; simp [e]
theorem AllQ.set {l : List Int} (h : AllQ l) (i : Nat) (v : Int) (hv : Qk v) : AllQ (l.set i v) := fun j => by
  rcases ith_set_or l i j v with e | e
  · rw [e]; exact hv
  · rw [e]; exact h j
theorem AllQ.of {l : List Int} (h : ∀ k ∈ l, Qk k) : AllQ l := fun j => by
  unfold ith
  rw [List.getD_eq_getElem?_getD]
  cases hj : l[j]? with
  | none => exact .inl rfl
  | some x => exact h x (List.mem_of_getElem? hj)
theorem marksF_q : ∀ (m i : Nat) (sos : Int) (l : List Int), AllQ l → marksF m i sos l = l
  | 0, _, _, l, _ => rfl
  | m + 1, i, sos, l, h => by
    have := h i; unfold Qk at this
    rw [marksF, if_neg (by omega)]
    exact marksF_q m (i + 1) _ l h
theorem arabicF_q : ∀ (m i : Nat) (sos : Int) (l : List Int), AllQ l → arabicF m i sos l = l
  | 0, _, _, l, _ => rfl
  | m + 1, i, sos, l, h => by
    have := h i; unfold Qk at this
    rw [arabicF]
    split
    · exact arabicF_q m (i + 1) _ l h
    · rw [if_neg (by omega)]
      exact arabicF_q m (i + 1) _ l h
theorem lettersF_q : ∀ (m i : Nat) (l : List Int), AllQ l → lettersF m i l = l
  | 0, _, l, _ => rfl
  | m + 1, i, l, h => by
    have := h i; unfold Qk at this
    rw [lettersF, if_neg (by omega)]
    exact lettersF_q m (i + 1) l h
theorem sepF_q : ∀ (m i : Nat) (l : List Int), AllQ l → sepF m i l = l
  | 0, _, l, _ => rfl
  | m + 1, i, l, h => by
    have := h (i - 1); unfold Qk at this
    rw [sepF, if_neg (by omega)]
    exact sepF_q m (i + 1) l h
theorem termF_q : ∀ (f i : Nat) (l : List Int), AllQ l → termF f i l = l
  | 0, _, l, _ => rfl
  | f + 1, i, l, h => by
    rw [termF]
    simp only
    split
    · rfl
    · have h1 := h (seekF true l (l.length - i) i - 1)
      have h2 := h (seekF false l (l.length - seekF true l (l.length - i) i) (seekF true l (l.length - i) i))
      unfold Qk at h1 h2
      rw [if_neg (by omega)]
      exact termF_q f _ l h
theorem othersF_q : ∀ (m i : Nat) (l : List Int), AllQ l → AllQ (othersF m i l) ∧ (othersF m i l).length = l.length
  | 0, _, l, h => ⟨h, rfl⟩
  | m + 1, i, l, h => by
    rw [othersF]
    split
    · have := othersF_q m (i + 1) (l.set i 13) (h.set i 13 (by unfold Qk; omega))
      rw [List.length_set] at this
      exact this
    · exact othersF_q m (i + 1) l h
theorem digitsF_q : ∀ (m i : Nat) (sos : Int) (l : List Int), AllQ l → digitsF m i sos l = l
  | 0, _, _, l, _ => rfl
  | m + 1, i, sos, l, h => by
    have := h i; unfold Qk at this
    rw [digitsF]
    split
    · exact digitsF_q m (i + 1) _ l h
    · rw [if_neg (by omega)]
      exact digitsF_q m (i + 1) _ l h
theorem lkn_q {d : Int} (h : Qk d) : lkn d = d := by
  unfold Qk at h
  unfold lkn
  rw [if_neg (by omega)]
theorem weakF_q (ks : List Int) (sos : Int) (h : ∀ k ∈ ks, Qk k) : AllQ (weakF ks sos) ∧ (weakF ks sos).length = ks.length := by
  have e : ks.map lkn = ks.map id := List.map_congr_left (fun k hk => lkn_q (h k hk))
  rw [List.map_id] at e
  have hq := AllQ.of h
  unfold weakF
  simp only
  rw [e, marksF_q _ _ _ _ hq, arabicF_q _ _ _ _ hq, lettersF_q _ _ _ hq, sepF_q _ _ _ hq, termF_q _ _ _ hq]
  have ho := othersF_q ks.length 0 ks hq
  rw [digitsF_q _ _ _ _ ho.1]
  exact ho
theorem resI_q (rs ks : List Int) (hl : rs.length = ks.length) (h : AllQ ks) (j : Nat) (hj : j < ks.length) : ith (resI rs ks 0 0 0) j = 0 := by
  have hM : min rs.length ks.length = ks.length := by rw [hl, Nat.min_self]
  have hres := resolveF_turned (D := fun v => v = 0) rs ks 0 0 0 (sortP (brkF (rs.take (min rs.length ks.length)) (alF (min rs.length ks.length) 0 (ks.take (min rs.length ks.length))) (min rs.length ks.length) 0 [] []))
    rfl rfl (fun v hv => by subst hv; exact ⟨rfl, Int.le_refl _⟩) (fun i hi hw => by
      have := h i
      unfold Qk at this
      revert hw
      rcases this with e | e | e | e | e | e <;> rw [e] <;> decide) (sortP_perm _)
  have e : resI rs ks 0 0 0 = resolveF rs ks 0 0 0 (sortP (brkF (rs.take (min rs.length ks.length)) (alF (min rs.length ks.length) 0 (ks.take (min rs.length ks.length))) (min rs.length ks.length) 0 [] [])) := rfl
  rw [e]
  generalize resolveF rs ks 0 0 0 _ = R at hres ⊢
  obtain ⟨ht, hw⟩ := hres
  rw [hM] at ht hw
  have hyl : (alF ks.length 0 (ks.take ks.length)).length = ks.length := by
    rw [(alF_ith ks.length 0 (ks.take ks.length) 0 (by rw [List.length_take]; omega)).2, List.length_take]; omega
  have hy : ith (alF ks.length 0 (ks.take ks.length)) j = alI (ith ks j) := by
    rw [(alF_ith ks.length 0 (ks.take ks.length) j (by rw [List.length_take]; omega)).1, if_pos (by omega), List.take_of_length_le (Nat.le_refl _)]
  have hq := h j
  unfold Qk at hq
  have hwj := hw j hj
  by_cases hn : 0 ≤ wayI (ith (alF ks.length 0 (ks.take ks.length)) j)
  · rw [ht.keep j (by omega) hn, hy]
    rw [hy] at hn
    revert hn
    rcases hq with e | e | e | e | e | e <;> rw [e] <;> decide
  · rcases ht.turn j (by omega) (by omega) with e | e
    · rw [e] at hwj; omega
    · exact e
theorem levF_q (ds : List Int) (hq : AllQ ds) : ∀ (m i : Nat) (ls : List Nat) (ks : List Int), (∀ l ∈ ls, l = 0) → (∀ k ∈ ks, Qk k) →
    (∀ l ∈ (levF 0 ds m i ⟨[⟨0, -1, false⟩], 0, 0, 0⟩ ls ks).1, l = 0) ∧ ∀ k ∈ (levF 0 ds m i ⟨[⟨0, -1, false⟩], 0, 0, 0⟩ ls ks).2, Qk k
  | 0, i, ls, ks, h1, h2 => ⟨h1, h2⟩
  | m + 1, i, ls, ks, h1, h2 => by
    have hd := hq i
    have e : (LPile.mk [⟨0, -1, false⟩] 0 0 0).step 0 ds i = (⟨[⟨0, -1, false⟩], 0, 0, 0⟩, 0, ith ds i) := by
      unfold LPile.step
      rw [lkn_q hd]
      unfold Qk at hd
      rcases hd with e | e | e | e | e | e <;> rw [e] <;> rfl
    rw [levF, e]
    refine levF_q ds hq m (i + 1) _ _ (fun l hl => ?_) fun k hk => ?_
    · rw [List.mem_append, List.mem_singleton] at hl
      rcases hl with hl | hl
      · exact h1 l hl
      · exact hl
    · rw [List.mem_append, List.mem_singleton] at hk
      rcases hk with hk | hk
      · exact h2 k hk
      · rw [hk]; exact hd
theorem levI_q (ds : List Int) (hq : AllQ ds) : (∀ j, (levI ds 0).1.getD j 0 = 0) ∧ AllQ (levI ds 0).2 := by
  have := levF_q ds hq ds.length 0 [] [] (fun l hl => by simp at hl) (fun k hk => by simp at hk)
  refine ⟨fun j => ?_, AllQ.of this.2⟩
  rcases Nat.lt_or_ge j (levI ds 0).1.length with h | h
  · exact this.1 _ (nget_mem _ j h)
  · rw [List.getD_eq_getElem?_getD, List.getElem?_eq_none h]; rfl
theorem aheadL_z (ds : List Int) (ls : List Nat) (hz : ∀ j, ls.getD j 0 = 0) : ∀ i, aheadL ds ls 0 i = 0
  | 0 => rfl
  | i + 1 => by
    rw [aheadL]
    split
    · rfl
    split
    · exact aheadL_z ds ls hz i
    · exact hz i
theorem behindL_z (ds : List Int) (ls : List Nat) (hz : ∀ j, ls.getD j 0 = 0) : ∀ m i, behindL ds ls 0 m i = 0
  | 0, i => rfl
  | m + 1, i => by
    rw [behindL]
    split
    · exact behindL_z ds ls hz m (i + 1)
    · exact hz i
theorem sides_z (ds : List Int) (ls : List Nat) (hz : ∀ j, ls.getD j 0 = 0) (run : List Nat) : sidesI ds ls 0 run = (0, 0) := by
  unfold sidesI
  simp only
  split
  · rfl
  · rw [hz, hz, aheadL_z ds ls hz]
    split
    · rw [behindL_z ds ls hz]; rfl
    · rfl
theorem para_plain (cs : List Int) (hq : AllQ (cs.map dirI)) :
    (paraI cs (cs.map dirI) 0).length = cs.length ∧ ∀ p, p < cs.length → (paraI cs (cs.map dirI) 0).getD p 0 = 0 ∧ (ith (cs.map dirI) p = 10 → (paraI cs (cs.map dirI) 0).getD p 0 = 0) := by
  refine para_get (fun y => y = 0) cs (cs.map dirI) 0 (by simp) rfl (fun run hr j hj => ?_)
  have hz := levI_q (cs.map dirI) hq
  rw [hz.1, sides_z _ _ hz.1]
  have hw := weakF_q (run.map (ith (levI (cs.map dirI) 0).2)) 0 (fun k hk => by
    rw [List.mem_map] at hk
    obtain ⟨p, _, rfl⟩ := hk
    exact hz.2 p)
  rw [List.length_map] at hw
  rw [show ((0 : Nat) : Int) = 0 from rfl, resI_q _ _ (by rw [List.length_map, hw.2]) hw.1 j (by rw [hw.2]; exact hj)]
  rfl
/-! A row. -/
theorem hangF_get (cs : List Int) (base fr : Nat) : ∀ (i : Nat) (h : Bool) (out : List Nat), i ≤ out.length → ∀ j,
    (i ≤ j → (hangF cs base fr i h out).getD j 0 = out.getD j 0) ∧
    (j < i → ((hangF cs base fr i h out).getD j 0 = min (out.getD j 0) 126 ∨ (hangF cs base fr i h out).getD j 0 = base) ∧ (dirI (ith cs (fr + j)) = 11 ∨ dirI (ith cs (fr + j)) = 10 → (hangF cs base fr i h out).getD j 0 = base))
  | 0, h, out, hi, j => ⟨fun _ => rfl, fun hj => by omega⟩
  | i + 1, h, out, hi, j => by
    rw [hangF]
    generalize hh : hangsF (dirI (ith cs (fr + i))) h = h'
    have hS : dirI (ith cs (fr + i)) = 11 ∨ dirI (ith cs (fr + i)) = 10 → h' = true := fun hd => by
      rw [← hh]; unfold hangsF; rw [if_pos hd]
    generalize ho : (if h' = true then (out.set i (min (out.getD i 0) 126)).set i base else out.set i (min (out.getD i 0) 126)) = out'
    have hol : out'.length = out.length := by rw [← ho]; split <;> simp
    have hoi : out'.getD i 0 = if h' = true then base else min (out.getD i 0) 126 := by
      rw [← ho]
      split
      · rw [nset_getD _ _ _ _ (by rw [List.length_set]; omega), if_pos rfl]
      · rw [nset_getD _ _ _ _ (by omega), if_pos rfl]
    have hoj : ∀ k, k ≠ i → out'.getD k 0 = out.getD k 0 := fun k hk => by
      rw [← ho]
      split
      · rw [nset_getD _ _ _ _ (by rw [List.length_set]; omega), if_neg (fun e => hk e.symm), nset_getD _ _ _ _ (by omega), if_neg (fun e => hk e.symm)]
      · rw [nset_getD _ _ _ _ (by omega), if_neg (fun e => hk e.symm)]
    have ih := hangF_get cs base fr i h' out' (by omega) j
    refine ⟨fun hj => by rw [ih.1 (by omega), hoj j (by omega)], fun hj => ?_⟩
    rcases Nat.lt_or_ge j i with h2 | h2
    · have := ih.2 h2
      rw [hoj j (by omega)] at this
      exact this
    · have : j = i := by omega
      subst this
      rw [ih.1 (Nat.le_refl _), hoi]
      refine ⟨?_, fun hd => by rw [if_pos (hS hd)]⟩
      split
      · exact .inr rfl
      · exact .inl rfl
theorem row_bounds (cs : List Int) (R : List Nat) (b n : Nat) (hn : cs.length = n) (hR : R.length = n) (hb : b ≤ 1) (h126 : ∀ p, p < n → R.getD p 0 ≤ 126) :
    ∃ row, rowI cs R b 0 n = some row ∧ row.length = n ∧ ∀ p, p < n → (row.getD p 0 = R.getD p 0 ∨ row.getD p 0 = b) ∧ (dirI (ith cs p) = 11 ∨ dirI (ith cs p) = 10 → row.getD p 0 = b) := by
  have hmb : min b 126 = b := by omega
  have c0 : clampN n 0 = 0 := by unfold clampN; simp
  have cn : clampN n (n : Int) = n := by unfold clampN; simp
  refine ⟨hangF cs b 0 n true R, ?_, by rw [hangF_len]; exact hR, fun p hp => ?_⟩
  · unfold rowI
    simp only
    rw [hn, hR, Nat.min_self, c0, cn, if_neg (by omega), hmb, List.drop_zero, Nat.sub_zero, List.take_of_length_le (by omega)]
  · have := (hangF_get cs b 0 n true R (by omega) p).2 hp
    rw [Nat.zero_add] at this
    have h := h126 p hp
    rw [show min (R.getD p 0) 126 = R.getD p 0 by omega] at this
    exact this
/-- what VisualBounds asks -/
theorem bounds_all (cs : List Int) (want : Int) (n : Nat) (hn : cs.length = n) : ∃ (R row : List Nat) (b : Nat), (visualI cs want).1 = R ∧ (visualI cs want).2 = (b : Int) ∧ rowI cs R b 0 n = some row ∧ R.length = n ∧ row.length = n ∧ b ≤ 1 ∧ (want = 1 → b = 0) ∧ (want = 2 → b = 1) ∧
    (∀ p, p < n → b ≤ R.getD p 0 ∧ R.getD p 0 ≤ 126 ∧ (dirI (ith cs p) = 10 → R.getD p 0 = b)) ∧
    (b = 0 → (∀ p, p < n → Qk (dirI (ith cs p))) → ∀ p, p < n → R.getD p 0 = 0) ∧
    (∀ p, p < n → (row.getD p 0 = R.getD p 0 ∨ row.getD p 0 = b) ∧ (dirI (ith cs p) = 11 ∨ dirI (ith cs p) = 10 → row.getD p 0 = b)) := by
  have hbb := baseF_bd want ((cs.map dirI).length + 1) (cs.map dirI)
  obtain ⟨b, hb⟩ : ∃ b : Nat, baseI (cs.map dirI) want = (b : Int) := ⟨(baseI (cs.map dirI) want).toNat, by unfold baseI; omega⟩
  have hb1 : b ≤ 1 := by unfold baseI at hb; omega
  have hbt : (baseI (cs.map dirI) want).toNat = b := by rw [hb]; rfl
  have hall := lines_get (fun y => b ≤ y ∧ y ≤ 126) (fun _ => True) b (fun _ _ _ => ⟨trivial, trivial⟩) (fun cs _ => para_bounds cs b (by omega)) cs.length cs (Nat.le_refl _) trivial
  obtain ⟨R, hR⟩ : ∃ R, linesF b cs.length cs [] = R := ⟨_, rfl⟩
  rw [hR, hn] at hall
  obtain ⟨row, h1, h2, h3⟩ := row_bounds cs R b n hn hall.1 hb1 (fun p hp => (hall.2 p hp).1.2)
  refine ⟨R, row, b, by unfold visualI; simp only; rw [hbt, hR], by unfold visualI; exact hb, h1, hall.1, h2, hb1, fun hw => ?_, fun hw => ?_, fun p hp => ⟨(hall.2 p hp).1.1, (hall.2 p hp).1.2, (hall.2 p hp).2⟩, fun h0 hq => ?_, h3⟩
  · subst hw
    rw [(base_forced (cs.map dirI)).1] at hb
    omega
  · subst hw
    rw [(base_forced (cs.map dirI)).2] at hb
    omega
  · subst h0
    have hpl := lines_get (fun y => y = 0) (fun l => AllQ (l.map dirI)) 0 (fun l k hl => ⟨fun j => ?_, fun j => ?_⟩) (fun l hl => para_plain l hl) cs.length cs (Nat.le_refl _) (AllQ.of fun k hk => ?_)
    · rw [hR, hn] at hpl
      exact fun p hp => (hpl.2 p hp).1
    · rcases Nat.lt_or_ge j k with h' | h'
      · have := hl j
        unfold ith at this ⊢
        rw [List.getD_eq_getElem?_getD, List.getElem?_map] at this ⊢
        rw [List.getElem?_take, if_pos h']
        exact this
      · unfold ith
        rw [List.getD_eq_getElem?_getD, List.getElem?_map, List.getElem?_take, if_neg (by omega)]
        exact .inl rfl
    · have := hl (k + j)
      unfold ith at this ⊢
      rw [List.getD_eq_getElem?_getD, List.getElem?_map] at this ⊢
      rw [List.getElem?_drop]
      exact this
    · rw [List.mem_map] at hk
      obtain ⟨x, hx, rfl⟩ := hk
      obtain ⟨p, hp, rfl⟩ := List.mem_iff_getElem.1 hx
      have := hq p (by omega)
      unfold ith at this
      rw [List.getD_eq_getElem?_getD, List.getElem?_eq_getElem hp] at this
      exact this
end Go.Proofs.Ytbhhebheclfdlaa
