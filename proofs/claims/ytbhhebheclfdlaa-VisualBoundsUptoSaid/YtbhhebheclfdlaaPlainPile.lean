/- Plain laws of layer 7's pile: what stands on it. No program is in sight. -/
import Derived.Test.YtbhhebheclfdlaaSpec07
namespace Go.Proofs.Ytbhhebheclfdlaa
set_option linter.unusedVariables false
set_option linter.unusedSimpArgs false

def LPile.last (P : LPile) (i : Nat) : LSt := P.states.getD i ⟨0, -1, false⟩
/-- What holds of a pile behind i places. -/
structure LPile.Ok (P : LPile) (i : Nat) : Prop where
  ne : 0 < P.states.length
  bot : (P.last 0).iso = false
  cnt : P.states.countP (·.iso) = P.opn
  lev : ∀ s ∈ P.states, s.level ≤ 125 ∧ -1 ≤ s.over ∧ s.over ≤ 1
  deep : P.deep ≤ i
  emb : P.emb ≤ i
  len : P.states.length ≤ i + 1
  opn : P.opn ≤ i

theorem LPile.top_at (P : LPile) (h : 0 < P.states.length) : P.top = P.last (P.states.length - 1) := by
  unfold LPile.top LPile.last
  rw [List.getLastD_eq_getLast?, List.getLast?_eq_getElem?, List.getD_eq_getElem?_getD]
theorem LPile.top_mem (P : LPile) (h : 0 < P.states.length) : P.top ∈ P.states := by
  rw [P.top_at h, LPile.last, List.getD_eq_getElem?_getD, List.getElem?_eq_getElem (by omega)]
  exact List.getElem_mem _
theorem LPile.Ok.top {P : LPile} {i : Nat} (h : P.Ok i) : P.top.level ≤ 125 ∧ -1 ≤ P.top.over ∧ P.top.over ≤ 1 := h.lev _ (P.top_mem h.ne)
theorem LPile.Ok.mono {P : LPile} {i j : Nat} (h : P.Ok i) (hj : i ≤ j) : P.Ok j := ⟨h.ne, h.bot, h.cnt, h.lev, by have := h.deep; omega, by have := h.emb; omega, by have := h.len; omega, by have := h.opn; omega⟩
/-- a top is split off -/
theorem LPile.split (P : LPile) (h : 0 < P.states.length) : P.states = P.states.take (P.states.length - 1) ++ [P.top] := by
  rw [P.top_at h, LPile.last, List.getD_eq_getElem?_getD, List.getElem?_eq_getElem (by omega)]
  have := List.take_succ_eq_append_getElem (l := P.states) (i := P.states.length - 1) (by omega)
  rw [show P.states.length - 1 + 1 = P.states.length by omega, List.take_length] at this
  exact this
theorem LPile.pop_len (P : LPile) : P.pop.states.length = P.states.length - 1 := by
  unfold LPile.pop; simp
theorem LPile.pop_cnt (P : LPile) (h : 0 < P.states.length) : P.states.countP (·.iso) = P.pop.states.countP (·.iso) + (if P.top.iso = true then 1 else 0) := by
  conv => lhs; rw [P.split h]
  rw [List.countP_append]
  unfold LPile.pop
  congr 1
  by_cases ht : P.top.iso = true
  · rw [if_pos ht]; simp [List.countP_cons, ht]
  · rw [if_neg ht]; simp [List.countP_cons, ht]
theorem LPile.pop_last (P : LPile) (k : Nat) (h : k < P.states.length - 1) : P.pop.last k = P.last k := by
  unfold LPile.pop LPile.last
  rw [List.getD_eq_getElem?_getD, List.getD_eq_getElem?_getD, List.getElem?_take, if_pos h]
theorem LPile.pop_mem (P : LPile) {s : LSt} (h : s ∈ P.pop.states) : s ∈ P.states := List.mem_of_mem_take h
/-- a pile with an isolate, and a bottom that is none, has two states at least -/
theorem LPile.two {P : LPile} (ne : 0 < P.states.length) (bot : (P.last 0).iso = false) (c : 0 < P.states.countP (·.iso)) : 1 < P.states.length := by
  rcases Nat.lt_or_ge 1 P.states.length with h | h
  · exact h
  · have h1 : P.states.length = 1 := by omega
    obtain ⟨s, hs⟩ := List.length_eq_one_iff.1 h1
    unfold LPile.last at bot
    rw [hs] at bot c
    simp [List.countP_cons] at bot c
    rw [bot] at c
    cases c
theorem LPile.Ok.step_pop {P : LPile} {i : Nat} (h : P.Ok i) (h1 : 1 < P.states.length) (ht : P.top.iso = false) : P.pop.Ok i := by
  have hl := P.pop_len
  refine ⟨by omega, by rw [P.pop_last 0 (by omega)]; exact h.bot, ?_, fun s hs => h.lev s (P.pop_mem hs), h.deep, h.emb, by have := h.len; omega, h.opn⟩
  have := P.pop_cnt h.ne
  rw [ht, if_neg (by decide), h.cnt] at this
  exact this.symm
/-- popping to an isolate: the pile, its own counts aside -/
theorem LPile.popTo_ok : ∀ (n : Nat) (P : LPile), P.states.length = n → 0 < n → (P.last 0).iso = false → 0 < P.states.countP (·.iso) →
    1 < (LPile.popTo n P).states.length ∧ (LPile.popTo n P).top.iso = true ∧ ((LPile.popTo n P).last 0).iso = false ∧ (LPile.popTo n P).states.countP (·.iso) = P.states.countP (·.iso) ∧
      (∀ s ∈ (LPile.popTo n P).states, s ∈ P.states) ∧ (LPile.popTo n P).states.length ≤ n ∧ (LPile.popTo n P).opn = P.opn ∧ (LPile.popTo n P).deep = P.deep ∧ (LPile.popTo n P).emb = P.emb
  | 0, _, _, h, _, _ => absurd h (by omega)
  | n + 1, P, hn, _, bot, c => by
    rw [LPile.popTo]
    by_cases ht : P.top.iso = true
    · rw [if_pos ht]
      exact ⟨LPile.two (by omega) bot c, ht, bot, rfl, fun _ h => h, by omega, rfl, rfl, rfl⟩
    · rw [if_neg ht]
      have h1 := LPile.two (by omega) bot c
      have hl := P.pop_len
      have hc := P.pop_cnt (by omega)
      rw [if_neg ht, Nat.add_zero] at hc
      obtain ⟨a, b, d, e, f, g, k⟩ := LPile.popTo_ok n P.pop (by omega) (by omega) (by rw [P.pop_last 0 (by omega)]; exact bot) (by omega)
      exact ⟨a, b, d, by omega, fun s hs => P.pop_mem (f s hs), by omega, k⟩
theorem LPile.Ok.close {P : LPile} {i : Nat} (h : P.Ok i) : P.close.Ok (i + 1) := by
  unfold LPile.close
  by_cases hd : 0 < P.deep
  · rw [if_pos hd]
    exact ⟨h.ne, h.bot, h.cnt, h.lev, by have := h.deep; simp only; omega, by have := h.emb; simp only; omega, by have := h.len; simp only; omega, by have := h.opn; simp only; omega⟩
  · rw [if_neg hd]
    by_cases ho : 0 < P.opn
    · rw [if_pos ho]
      obtain ⟨a, b, d, e, f, g, k1, k2, k3⟩ := LPile.popTo_ok P.states.length { P with emb := 0 } rfl h.ne h.bot (by have := h.cnt; simp only; omega)
      generalize LPile.popTo P.states.length { P with emb := 0 } = Q at a b d e f g k1 k2 k3 ⊢
      have hl := Q.pop_len
      have hc := Q.pop_cnt (by omega)
      rw [if_pos b] at hc
      simp only at e k1 k2 k3
      have hcnt := h.cnt
      refine ⟨by simp only; omega, ?_, by simp only; omega, fun s hs => h.lev s (f s (Q.pop_mem hs)), ?_, ?_, ?_, by have := h.opn; simp only; omega⟩
      · exact (congrArg LSt.iso (Q.pop_last 0 (by omega))).trans d
      · have := h.deep; show Q.deep ≤ i + 1; omega
      · show Q.emb ≤ i + 1; omega
      · have := h.len; show Q.pop.states.length ≤ i + 1 + 1; omega
    · rw [if_neg ho]
      exact h.mono (by omega)
theorem LPile.Ok.fin {P : LPile} {i : Nat} (h : P.Ok i) : P.fin.Ok (i + 1) := by
  unfold LPile.fin
  by_cases hd : 0 < P.deep
  · rw [if_pos hd]; exact h.mono (by omega)
  · rw [if_neg hd]
    by_cases he : 0 < P.emb
    · rw [if_pos he]
      exact ⟨h.ne, h.bot, h.cnt, h.lev, by have := h.deep; simp only; omega, by have := h.emb; simp only; omega, by have := h.len; simp only; omega, by have := h.opn; simp only; omega⟩
    · rw [if_neg he]
      by_cases h1 : 1 < P.states.length ∧ P.top.iso = false
      · rw [if_pos h1]; exact (h.step_pop h1.1 h1.2).mono (by omega)
      · rw [if_neg h1]; exact h.mono (by omega)
theorem LPile.Ok.laid {P : LPile} {i : Nat} (h : P.Ok i) (odd : Bool) (over : Int) (iso : Bool) (hr : P.room odd = true) (ho1 : -1 ≤ over) (ho2 : over ≤ 1) :
    ({ states := P.states ++ [⟨P.next odd, over, iso⟩], opn := P.opn + (if iso = true then 1 else 0), deep := P.deep, emb := P.emb } : LPile).Ok (i + 1) := by
  have hn : P.next odd ≤ 125 := by
    unfold LPile.room at hr
    simp only [Bool.and_eq_true, decide_eq_true_eq] at hr
    exact hr.1.1
  refine ⟨by simp, ?_, ?_, ?_, by have := h.deep; simp only; omega, by have := h.emb; simp only; omega, by have := h.len; simp only [List.length_append, List.length_singleton]; omega, ?_⟩
  · have := h.ne
    have hb := h.bot
    unfold LPile.last at hb ⊢
    rw [List.getD_eq_getElem?_getD, List.getElem?_append_left this, ← List.getD_eq_getElem?_getD]
    exact hb
  · simp only [List.countP_append, h.cnt]
    congr 1
    cases iso <;> rfl
  · intro s hs
    rw [List.mem_append, List.mem_singleton] at hs
    rcases hs with hs | rfl
    · exact h.lev s hs
    · exact ⟨hn, ho1, ho2⟩
  · have := h.opn
    simp only
    split <;> omega
theorem LPile.Ok.lay0 {P : LPile} {i : Nat} (h : P.Ok i) (odd : Bool) (over : Int) (ho1 : -1 ≤ over) (ho2 : over ≤ 1) : (P.lay odd over false).Ok (i + 1) := by
  unfold LPile.lay
  by_cases hr : P.room odd = true
  · rw [if_pos hr]
    exact h.laid odd over false hr ho1 ho2
  · rw [if_neg hr]; exact h.mono (by omega)
theorem LPile.Ok.embed {P : LPile} {i : Nat} (h : P.Ok i) (d : Int) : (P.embed d).Ok (i + 1) := by
  unfold LPile.embed
  simp only
  split
  · refine h.lay0 _ _ ?_ ?_
    · split
      · omega
      · split <;> omega
    · split
      · omega
      · split <;> omega
  · split
    · exact ⟨h.ne, h.bot, h.cnt, h.lev, by have := h.deep; simp only; omega, by have := h.emb; simp only; omega, by have := h.len; simp only; omega, by have := h.opn; simp only; omega⟩
    · exact h.mono (by omega)
theorem LPile.Ok.isolate {P : LPile} {i : Nat} (h : P.Ok i) (odd : Bool) : (if P.room odd = true then { P.lay odd (-1) true with opn := P.opn + 1 } else { P with deep := P.deep + 1 } : LPile).Ok (i + 1) := by
  by_cases hr : P.room odd = true
  · rw [if_pos hr]
    have := h.laid odd (-1) true hr (by omega) (by omega)
    unfold LPile.lay
    rw [if_pos hr]
    exact this
  · rw [if_neg hr]
    exact ⟨h.ne, h.bot, h.cnt, h.lev, by have := h.deep; simp only; omega, by have := h.emb; simp only; omega, by have := h.len; simp only; omega, by have := h.opn; simp only; omega⟩
theorem LPile.begin_ok (base i : Nat) (hb : base ≤ 125) : (⟨[⟨base, -1, false⟩], 0, 0, 0⟩ : LPile).Ok i :=
  ⟨by simp, rfl, rfl, fun s hs => by simp at hs; subst hs; exact ⟨hb, by simp, by simp⟩, Nat.zero_le _, Nat.zero_le _, by simp, Nat.zero_le _⟩
theorem LPile.Ok.step {P : LPile} {i : Nat} (h : P.Ok i) (base : Nat) (hb : base ≤ 125) (ds : List Int) (j : Nat) : (P.step base ds j).1.Ok (i + 1) := by
  unfold LPile.step
  simp only
  split
  · exact h.embed _
  split
  · exact h.isolate _
  split
  · exact h.close
  split
  · exact h.fin
  split
  · exact h.mono (by omega)
  split
  · exact LPile.begin_ok base _ hb
  · exact h.mono (by omega)
end Go.Proofs.Ytbhhebheclfdlaa
