/- What the bound of the '..UptoSaid' statements gives: the capacities of the slices that came in, the lengths of the strings. No conditions. -/
import Derived.Test.YtlbclfmbejjneaaGreatDoorRows
import Derived.Test.YtlbclfmbejjneaaGreatDoorV1
import Derived.ProofKit
import Derived.Lib.SmallJoins
namespace Go.Proofs.YtlbclfmbejjneaaGreatDoor.bulks
open Go.RowKit Go.ChangeShapes Go.WideShapes Go.ChangeAt

theorem one_le {H : Type} (d : DataW H) : 1 ≤ Rows.uptoBulk d := by
  cases d with
  | lit l => cases l <;> simp [Rows.uptoBulk]
  | nil => simp [Rows.uptoBulk]
  | ptr d => simp [Rows.uptoBulk]
  | slice elems spare => simp [Rows.uptoBulk]
  | agg parts => simp [Rows.uptoBulk]
  | iface t d => simp [Rows.uptoBulk]
  | map entries => simp [Rows.uptoBulk]
  | held h => simp [Rows.uptoBulk]
theorem length_le {H : Type} (l : List (DataW H)) : l.length ≤ Rows.uptoBulkAll l := by
  induction l with
  | nil => simp [Rows.uptoBulkAll]
  | cons x r ih => have := one_le x; simp only [Rows.uptoBulkAll, List.length_cons]; omega
theorem slice_le {H : Type} (elems spare : List (DataW H)) : elems.length + spare.length + 1 ≤ Rows.uptoBulk (.slice elems spare) := by
  have h1 := length_le elems
  have h2 := length_le spare
  simp only [Rows.uptoBulk]
  omega
theorem string_eq {H : Type} (bytes : List UInt8) : Rows.uptoBulk (DataW.lit (H := H) (.string bytes)) = bytes.length + 1 := by
  simp [Rows.uptoBulk]
theorem bound {H : Type} {l : List (DataW H)} (hk : Rows.uptoSmall H l = true) : Rows.uptoBulkAll l ≤ 1048576 := of_decide_eq_true hk
theorem bulk_ints {H : Type} {k : IntKind} {d : DataW H} {zs : List Int} {l c : Nat} (hz : zs.length = c) (hl : l ≤ c) (hd : d = .slice (lits k (zs.take l)) (lits k (zs.drop l))) : c ≤ Rows.uptoBulk d := by
  have := slice_le (H := H) (lits k (zs.take l)) (lits k (zs.drop l))
  rw [← hd] at this
  simp [lits] at this
  omega

/-- A slice of integers that came in: nil; or a row of 'cap' cells, the first 'len' of them its elements. -/
def IsRow (k : IntKind) (w : World) (a : Option Addr) (len cap : Nat) (zs : List Int) : Prop :=
  (a = none ∧ len = 0 ∧ cap = 0 ∧ zs = []) ∨
  ∃ x, a = some x ∧ len ≤ cap ∧ cap ≤ maxLen ∧ zs.length = cap ∧ (∀ i, i < zs.length → w.cell? (x.add i) = some (.int k (zs.getD i 0))) ∧ ∀ n ∈ zs, (Lit.int k n).wf = true
theorem IsRow.rd {k : IntKind} {w : World} {a : Option Addr} {len cap : Nat} {zs : List Int} (h : IsRow k w a len cap zs) : Rd k w a (zs.take len) ∧ (zs.take len).length = len ∧ len ≤ cap ∧ cap ≤ maxLen := by
  rcases h with ⟨h1, h2, h3, h4⟩ | ⟨x, h1, h2, h3, h4, h5, h6⟩
  · subst h1 h2 h3 h4; exact ⟨.inl rfl, rfl, Nat.le_refl _, Nat.zero_le _⟩
  · have hl : (zs.take len).length = len := by simp; omega
    refine ⟨?_, hl, h2, h3⟩
    by_cases h0 : len = 0
    · subst h0; exact .inl (by simp)
    · have hc := h5 0 (by omega)
      obtain ⟨b, off, spot⟩ := x
      have hspot : spot = none := by simpa [Addr.add] using World.cell?_spot hc
      subst hspot
      refine .inr ⟨b, off, h1, cell_lt (by simpa [Addr.add] using hc), fun i hi => ?_⟩
      rw [hl] at hi
      have hi' := h5 i (by omega)
      have e : (⟨b, off, none⟩ : Addr).add i = ⟨b, off + i, none⟩ := by unfold Addr.add; split <;> simp_all
      rw [e] at hi'
      rw [hi']
      have : ith (zs.take len) i = zs.getD i 0 := by unfold ith; rw [List.getD_eq_getElem?_getD, List.getD_eq_getElem?_getD, List.getElem?_take, if_pos hi]
      rw [this]

/-! A struct of any number of one-cell fields, by value. -/
theorem drop_one {α : Type} (l : List α) (i : Nat) (x : α) (h : l[i]? = some x) : (l.drop i).take 1 = [x] := by
  obtain ⟨hl, e⟩ := List.getElem?_eq_some_iff.1 h
  rw [List.drop_eq_getElem_cons hl, e]
  rfl
theorem fields_open {P : Program} {H : Type} {enc : TypeId × Value → H} {w : World} {base : Nat} {spare : Nat → Bool} {held : Bool} {r : Reach} {b0 : Nat} {t : TypeId} {fs : Array Field} {v : Value} {d : DataW H} {p : List MemPlace}
    (hs : P.underlying t = some (.struct fs)) (hone : Deep.oneCellFields P fs = true) (hC : P.cellsOf t = fs.size) (hv : Value.okWide P w r b0 t v) (h : DataW.Trod enc P w base spare held t v d p) :
    ∃ (cs : List Value) (ys : List (DataW H × List MemPlace)) (n : Nat), v = .agg cs.toArray ∧ d = .agg (ys.map (·.1)) ∧ cs.length = fs.size ∧ ys.length = fs.size ∧
      ∀ (i : Nat) (f : Field) (c : Value) (y : DataW H × List MemPlace), fs[i]? = some f → cs[i]? = some c → ys[i]? = some y → DataW.trod enc P w base spare held n f.type [c] = some y := by
  obtain ⟨arr, rfl, hsz⟩ := okWide_struct hs hv
  obtain ⟨cs⟩ := arr
  obtain ⟨fuel, hf⟩ := h
  obtain ⟨ys, n, _, hx, _, hlen, hg⟩ := DataW.trod_struct hs hf
  simp only [Prod.mk.injEq] at hx
  refine ⟨cs, ys, n, rfl, hx.1, by rw [hC] at hsz; simpa using hsz, hlen, fun i f c y h1 h2 h3 => ?_⟩
  obtain ⟨o, k⟩ := Deep.hone_of hone i f h1
  have := hg i f h1
  rw [o, k] at this
  rw [h3] at this
  rw [← this]
  congr 1
  exact (drop_one cs i c h2).symm
theorem list_len5 {α : Type} {l : List α} (h : l.length = 5) : ∃ a b c d e, l = [a, b, c, d, e] := by
  match l, h with
  | [a, b, c, d, e], _ => exact ⟨a, b, c, d, e, rfl⟩
end Go.Proofs.YtlbclfmbejjneaaGreatDoor.bulks
