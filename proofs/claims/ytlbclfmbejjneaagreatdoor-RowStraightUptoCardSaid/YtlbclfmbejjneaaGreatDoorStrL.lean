/- Slices of structs of the call's own, as lists: read, written, kept, grown. No conditions. -/
import Derived.Test.YtlbclfmbejjneaaGreatDoorBlk
namespace Go.Proofs.YtlbclfmbejjneaaGreatDoor
set_option linter.unusedVariables false
set_option linter.unusedSimpArgs false
open Go.RowKit Go.Proofs Go.Shelf

/-- how a struct is laid: k cells -/
structure Enc (α : Type) where
  enc : α → List Value
  k : Nat
  len : ∀ x, (enc x).length = k
variable {α : Type} (E : Enc α)
theorem flatS_len (l : List α) : (l.flatMap E.enc).length = l.length * E.k := by
  induction l with
  | nil => simp
  | cons x l ih => rw [List.flatMap_cons, List.length_append, ih, List.length_cons, E.len, Nat.add_mul]; omega
theorem flatS_get (l : List α) (i : Nat) (x : α) (h : l[i]? = some x) (j : Nat) (v : Value) (hv : (E.enc x)[j]? = some v) : (l.flatMap E.enc)[i * E.k + j]? = some v := by
  have hj : j < E.k := by
    have := (List.getElem?_eq_some_iff.1 hv).1
    rw [E.len] at this
    exact this
  induction l generalizing i with
  | nil => simp at h
  | cons y l ih =>
    rw [List.flatMap_cons]
    cases i with
    | zero =>
      have : y = x := by simpa using h
      subst this
      rw [Nat.zero_mul, Nat.zero_add, List.getElem?_append_left (by rw [E.len]; exact hj)]
      exact hv
    | succ i =>
      have e1 : (i + 1) * E.k + j - (E.enc y).length = i * E.k + j := by rw [E.len, Nat.add_mul]; omega
      rw [List.getElem?_append_right (by rw [E.len, Nat.add_mul]; omega), e1]
      exact ih i (by simpa using h)
theorem flatS_set (l : List α) (i : Nat) (x y : α) (h : l[i]? = some x) (j : Nat) (v : Value) (hj : j < E.k) (hy : E.enc y = (E.enc x).set j v) : (l.set i y).flatMap E.enc = (l.flatMap E.enc).set (i * E.k + j) v := by
  induction l generalizing i with
  | nil => simp at h
  | cons z l ih =>
    cases i with
    | zero =>
      have : z = x := by simpa using h
      subst this
      rw [List.set_cons_zero, List.flatMap_cons, List.flatMap_cons, Nat.zero_mul, Nat.zero_add, List.set_append_left _ _ (by rw [E.len]; exact hj), hy]
    | succ i =>
      have e1 : (i + 1) * E.k + j - (E.enc z).length = i * E.k + j := by rw [E.len, Nat.add_mul]; omega
      rw [List.set_cons_succ, List.flatMap_cons, List.flatMap_cons, List.set_append_right _ _ (by rw [E.len, Nat.add_mul]; omega), e1, ih i (by simpa using h)]
theorem flatS_snoc (l : List α) (x : α) : (l ++ [x]).flatMap E.enc = l.flatMap E.enc ++ E.enc x := by
  rw [List.flatMap_append, List.flatMap_singleton]
/-- a slice of structs of the call's own -/
def OwnS (e : Nat) (W : World) (base : Nat) (v : Value) (l : List α) : Prop := W.ownsRow base e E.k v l.length (l.flatMap E.enc)
variable {E}
theorem OwnS.nil (e : Nat) (W : World) (base : Nat) : OwnS E e W base (.slice none 0 0) [] := ⟨by simp, .inl ⟨rfl, rfl⟩⟩
theorem OwnS.keep {e : Nat} {W W' : World} {base : Nat} {v : Value} {l : List α} (h : OwnS E e W base v l) (hb : Below W.heap.size W W') : OwnS E e W' base v l := ownsRow_keep h hb
theorem OwnS.low {e : Nat} {W : World} {base base' : Nat} {v : Value} {l : List α} (h : OwnS E e W base v l) (hb : base' ≤ base) : OwnS E e W base' v l := ownsRow_base h hb
theorem OwnS.slice {e : Nat} {W : World} {base : Nat} {v : Value} {l : List α} (h : OwnS E e W base v l) : ∃ a cap, v = .slice a l.length cap ∧ l.length ≤ cap ∧ cap ≤ maxLen := own_slice h
theorem OwnS.other {e : Nat} {W : World} {base B i : Nat} {v u : Value} {l : List α} (h : OwnS E e W base v l) (hne : ∀ g, v.ownBlock = some g → g ≠ B) : OwnS E e (W.setCell ⟨B, i, none⟩ u) base v l := row_other h hne
theorem OwnS.at {e : Nat} {W : World} {base cap : Nat} {a : Option Addr} {l : List α} (h : OwnS E e W base (.slice a l.length cap) l) (i : Nat) (x : α) (hx : l[i]? = some x) :
    ∃ G, a = some ⟨G, 0, none⟩ ∧ base ≤ G ∧ G < W.heap.size ∧ (∀ j u, (E.enc x)[j]? = some u → W.cell? ⟨G, i * E.k + j, none⟩ = some u) ∧ ∀ j, W.frozen? ⟨G, j, none⟩ = false := by
  have hil := (List.getElem?_eq_some_iff.1 hx).1
  obtain ⟨G, h1, h2, h3, h4⟩ := own_cells h (by omega)
  refine ⟨G, h1, h2, h3, fun j u hu => ?_, fun j => ?_⟩
  · have hj : j < E.k := by
      have := (List.getElem?_eq_some_iff.1 hu).1
      rw [E.len] at this
      exact this
    have hle : (i + 1) * E.k ≤ l.length * E.k := Nat.mul_le_mul_right _ (by omega)
    rw [Nat.add_mul] at hle
    rw [h4 _ (by omega)]
    exact flatS_get E l i x hx j u hu
  · rcases h.2 with ⟨h1', h0⟩ | ⟨g, cap', cur, h1', hb, hg, _⟩
    · omega
    · rw [h1] at h1'
      simp only [Value.slice.injEq, Option.some.injEq, Addr.mk.injEq] at h1'
      obtain ⟨⟨rfl, _⟩, _⟩ := h1'
      simp [World.frozen?, hg]
theorem OwnS.set {e : Nat} {W : World} {base cap G : Nat} {l : List α} (h : OwnS E e W base (.slice (some ⟨G, 0, none⟩) l.length cap) l) (i : Nat) (x y : α) (hx : l[i]? = some x) (j : Nat) (v : Value) (hj : j < E.k) (hy : E.enc y = (E.enc x).set j v) :
    OwnS E e (W.setCell ⟨G, i * E.k + j, none⟩ v) base (.slice (some ⟨G, 0, none⟩) (l.set i y).length cap) (l.set i y) := by
  unfold OwnS
  rw [List.length_set, flatS_set E l i x y hx j v hj hy]
  exact (World.ownsRow.stored h (i * E.k + j) v).1
end Go.Proofs.YtlbclfmbejjneaaGreatDoor
