/- The pile in memory: its own block and its row of states, which may be longer than the slice's capacity. No program's step is in sight. -/
import Derived.Test.YtbhhebheclfdlaaPairs
import Derived.Test.YtbhhebheclfdlaaPlainPile
import Derived.ArgAppend
namespace Go.Proofs.Ytbhhebheclfdlaa
set_option linter.unusedVariables false
set_option linter.unusedSimpArgs false
open Go.RowKit

theorem flat_len {α : Type} (l : List α) (f : α → List Value) (k : Nat) (hf : ∀ x, (f x).length = k) : (l.flatMap f).length = l.length * k := by
  induction l with
  | nil => simp
  | cons x l ih => rw [List.flatMap_cons, List.length_append, hf, ih, List.length_cons, Nat.add_mul]; omega
theorem flat_get {α : Type} (l : List α) (d : α) (f : α → List Value) (k : Nat) (hf : ∀ x, (f x).length = k) (i j : Nat) (hi : i < l.length) (hj : j < k) : (l.flatMap f)[i * k + j]? = (f (l.getD i d))[j]? := by
  induction l generalizing i with
  | nil => simp at hi
  | cons x l ih =>
    rw [List.flatMap_cons]
    cases i with
    | zero => rw [Nat.zero_mul, Nat.zero_add, List.getElem?_append_left (by rw [hf]; exact hj)]; rfl
    | succ i =>
      have := ih i (by simpa using hi)
      rw [List.getElem?_append_right (by rw [hf, Nat.add_mul]; omega), hf, show (i + 1) * k + j - k = i * k + j by rw [Nat.add_mul]; omega]
      exact this
theorem flat_take {α : Type} (l : List α) (f : α → List Value) (k : Nat) (hf : ∀ x, (f x).length = k) (m : Nat) : (l.take m).flatMap f = (l.flatMap f).take (m * k) := by
  induction l generalizing m with
  | nil => simp
  | cons x l ih =>
    cases m with
    | zero => simp
    | succ m =>
      have h2 : (f x).length = k := hf x
      rw [List.take_succ_cons, List.flatMap_cons, List.flatMap_cons, ih, List.take_append, h2, List.take_of_length_le (l := f x) (by rw [h2, Nat.add_mul]; omega), show (m + 1) * k - k = m * k by rw [Nat.add_mul]; omega]

/-- Only blocks p and R of the old ones may have turned. -/
structure Keep2 (p R : Nat) (w w' : World) : Prop where
  os : w'.os = w.os
  tape : w'.tape = w.tape
  output : w'.output = w.output
  size : w.heap.size ≤ w'.heap.size
  block : ∀ k, k < w.heap.size → k ≠ p → k ≠ R → w'.heap[k]? = w.heap[k]?
theorem Keep2.refl (p R : Nat) (w : World) : Keep2 p R w w := ⟨rfl, rfl, rfl, Nat.le_refl _, fun _ _ _ _ => rfl⟩
theorem Keep2.trans {p R R' : Nat} {w w' w'' : World} (h : Keep2 p R w w') (k : Keep2 p R' w' w'') (hR : R' = R ∨ w.heap.size ≤ R') : Keep2 p R w w'' := by
  refine ⟨k.os.trans h.os, k.tape.trans h.tape, k.output.trans h.output, Nat.le_trans h.size k.size, fun q hq h1 h2 => ?_⟩
  have := h.size
  exact (k.block q (by omega) h1 (by rcases hR with e | e <;> omega)).trans (h.block q hq h1 h2)
theorem Keep2.set {p R : Nat} {w w' : World} (h : Keep2 p R w w') (i : Nat) (v : Value) : Keep2 p R w (w'.setCell ⟨p, i, none⟩ v) :=
  ⟨h.os, h.tape, h.output, by simpa [World.setCell] using h.size, fun q hq h1 h2 => (heap_setCell_other w' ⟨p, i, none⟩ q v h1).trans (h.block q hq h1 h2)⟩
theorem Keep2.alloc {p R : Nat} {w w' : World} (h : Keep2 p R w w') (o : Obj) : Keep2 p R w (w'.alloc o) :=
  ⟨h.os, h.tape, h.output, by have := h.size; simp; omega, fun q hq h1 h2 => (Below.heap_alloc w' o q (by have := h.size; omega)).trans (h.block q hq h1 h2)⟩
theorem Keep2.drew {p R : Nat} {w w' : World} (h : Keep2 p R w w') : Keep2 p R w w'.drew := ⟨h.os, h.tape, h.output, h.size, h.block⟩
theorem Keep2.drewN {p R : Nat} {w w' : World} (h : Keep2 p R w w') (n : Nat) : Keep2 p R w (w'.drewN n) := ⟨h.os, h.tape, h.output, h.size, h.block⟩
theorem Keep2.grown {p R : Nat} {w w' w'' : World} (h : Keep2 p R w w') {row : Option Nat} (hg : w'.grownBy w'' row) (hr : ∀ k, row = some k → k = p ∨ k = R ∨ w.heap.size ≤ k) : Keep2 p R w w'' := by
  refine ⟨hg.os.trans h.os, hg.tape.trans h.tape, hg.output.trans h.output, Nat.le_trans h.size hg.size, fun q hq h1 h2 => ?_⟩
  have := h.size
  exact (hg.block q (by omega) (fun e => by rcases hr q e.symm with e | e | e <;> omega)).trans (h.block q hq h1 h2)
theorem Keep2.below {p R B : Nat} {w w' : World} (h : Keep2 p R w w') (hp : B ≤ p) (hR : B ≤ R) (hB : B ≤ w.heap.size) : Below B w w' :=
  ⟨h.os, h.tape, h.output, h.size, fun q hq => h.block q (by omega) (by omega) (by omega)⟩
theorem Keep2.of {p R : Nat} {w w' : World} (h : Below w.heap.size w w') : Keep2 p R w w' := ⟨h.os, h.tape, h.output, h.size, fun q hq _ _ => h.block q hq⟩
theorem Keep2.own {p R : Nat} {w w' : World} (h : Keep2 p R w w') {base e size n : Nat} {v : Value} {xs : List Value} (ho : w.ownsRow base e size v n xs) (hp : ∀ g, v.ownBlock = some g → g ≠ p ∧ g ≠ R) : w'.ownsRow base e size v n xs := by
  refine ⟨ho.1, ?_⟩
  rcases ho.2 with hn | ⟨g, cap, cur, rfl, hb, hg, r⟩
  · exact .inl hn
  · have := hp g rfl
    exact .inr ⟨g, cap, cur, rfl, hb, (h.block g (Array.getElem?_eq_some_iff.1 hg).1 this.1 this.2).trans hg, r⟩

def scell (s : LSt) : List Value := [.int .u8 s.level, .int .i8 s.over, .bool s.iso]
/-- The pile P: its struct is block p, its states stand at the head of block R. -/
def PileAt (w : World) (base p R : Nat) (P : LPile) : Prop :=
  ∃ N cap, w.heap[p]? = some (.cells #[.slice (some ⟨R, 0, none⟩) P.states.length cap, .int .i64 P.opn, .int .i64 P.deep, .int .i64 P.emb] 91 (0, 0)) ∧ RowAt w R 87 N (P.states.flatMap scell) ∧
    base ≤ p ∧ base ≤ R ∧ R ≠ p ∧ P.states.length ≤ cap ∧ cap ≤ maxLen ∧ cap * 3 ≤ N
/-- The cells of the pile's own block, as the walk reads them. -/
theorem pile_cells {w : World} {p : Nat} {a b c d : Value} (h : w.heap[p]? = some (.cells #[a, b, c, d] 91 (0, 0))) :
    w.cell? ⟨p, 0, none⟩ = some a ∧ w.cell? ⟨p, 1, none⟩ = some b ∧ w.cell? ⟨p, 2, none⟩ = some c ∧ w.cell? ⟨p, 3, none⟩ = some d ∧
      (∀ i, w.frozen? ⟨p, i, none⟩ = false) ∧ p < w.heap.size := by
  refine ⟨by simp [World.cell?, h], by simp [World.cell?, h], by simp [World.cell?, h], by simp [World.cell?, h], fun i => by simp [World.frozen?, h], (Array.getElem?_eq_some_iff.1 h).1⟩
theorem pile_set0 {w : World} {p : Nat} {a b c d v : Value} (h : w.heap[p]? = some (.cells #[a, b, c, d] 91 (0, 0))) : (w.setCell ⟨p, 0, none⟩ v).heap[p]? = some (.cells #[v, b, c, d] 91 (0, 0)) := by
  simp [World.setCell, Array.getElem?_modify, h]
theorem pile_set1 {w : World} {p : Nat} {a b c d v : Value} (h : w.heap[p]? = some (.cells #[a, b, c, d] 91 (0, 0))) : (w.setCell ⟨p, 1, none⟩ v).heap[p]? = some (.cells #[a, v, c, d] 91 (0, 0)) := by
  simp [World.setCell, Array.getElem?_modify, h]
theorem pile_set2 {w : World} {p : Nat} {a b c d v : Value} (h : w.heap[p]? = some (.cells #[a, b, c, d] 91 (0, 0))) : (w.setCell ⟨p, 2, none⟩ v).heap[p]? = some (.cells #[a, b, v, d] 91 (0, 0)) := by
  simp [World.setCell, Array.getElem?_modify, h]
theorem pile_set3 {w : World} {p : Nat} {a b c d v : Value} (h : w.heap[p]? = some (.cells #[a, b, c, d] 91 (0, 0))) : (w.setCell ⟨p, 3, none⟩ v).heap[p]? = some (.cells #[a, b, c, v] 91 (0, 0)) := by
  simp [World.setCell, Array.getElem?_modify, h]
theorem row_set_other {w : World} {p R t N i : Nat} {xs : List Value} {v : Value} (h : RowAt w R t N xs) (hne : R ≠ p) : RowAt (w.setCell ⟨p, i, none⟩ v) R t N xs := h.kept (heap_setCell_other w ⟨p, i, none⟩ R v hne)
/-- The top's three cells. -/
theorem pile_top {w : World} {R N L : Nat} {P : LPile} (h : RowAt w R 87 N (P.states.flatMap scell)) (hL : P.states.length = L + 1) :
    w.cell? ⟨R, L * 3, none⟩ = some (.int .u8 P.top.level) ∧ w.cell? ⟨R, L * 3 + 1, none⟩ = some (.int .i8 P.top.over) ∧ w.cell? ⟨R, L * 3 + 2, none⟩ = some (.bool P.top.iso) := by
  have ht : P.top = P.states.getD L ⟨0, -1, false⟩ := by rw [P.top_at (by omega), LPile.last, hL, Nat.add_sub_cancel]
  have g := fun j (hj : j < 3) => flat_get P.states ⟨0, -1, false⟩ scell 3 (fun _ => rfl) L j (by omega) hj
  rw [ht]
  exact ⟨h.cell (L * 3) _ (g 0 (by omega)), h.cell (L * 3 + 1) _ (g 1 (by omega)), h.cell (L * 3 + 2) _ (g 2 (by omega))⟩
theorem PileAt.keep {w w' : World} {base p R : Nat} {P : LPile} (h : PileAt w base p R P) (hb : Below w.heap.size w w') : PileAt w' base p R P := by
  obtain ⟨N, cap, h1, h2, r⟩ := h
  exact ⟨N, cap, (hb.block p (Array.getElem?_eq_some_iff.1 h1).1).trans h1, h2.kept (hb.block R h2.lt), r⟩
theorem PileAt.lt {w : World} {base p R : Nat} {P : LPile} (h : PileAt w base p R P) : base ≤ p ∧ base ≤ R ∧ p < w.heap.size ∧ R < w.heap.size ∧ R ≠ p := by
  obtain ⟨N, cap, h1, h2, h3, h4, h5, _⟩ := h
  exact ⟨h3, h4, (Array.getElem?_eq_some_iff.1 h1).1, h2.lt, h5⟩

/-- 'append' onto a slice over the head of an own row that may be longer than the capacity: there, or in a new row. -/
theorem wpList_append_head {P : Program} (w : World) {ops : Array Oper} {rest : List Oper} {o : Oper} {a : Act} {Q : Exit → Act → World → Prop}
    (hg : o.guard = none) (s x : Operand) (t : TypeId) (hop : o.op = Op.call { callee := Callee.builtin Builtin.append, args := #[s, x], argTypes := #[t, t] })
    (e : TypeId) (i : TypeInfo) (z : Value) (size bytes : Nat) (ht : P.underlying t = some (.slice e)) (hi : P.info? e = some i) (hz : i.zero = some z) (hsz : i.size = size) (hby : i.bytes = bytes) (hzs : z.cells.size = size) (hpos : 0 < size)
    (R N k cap : Nat) (xs : List Value) (hs : a.eval s = .slice (some ⟨R, 0, none⟩) k cap) (hR : RowAt w R e N xs) (hxl : xs.length = k * size) (hN : cap * size ≤ N) (hcm : cap ≤ maxLen)
    (ad : Addr) (m c : Nat) (news : List Value) (hx : a.eval x = .slice (some ad) m c) (hn : news.length = m * size)
    (hc : ∀ j u, news[j]? = some u → w.cell? (ad.add j) = some u) (h1c : ∀ u ∈ news, u.oneCell' = true) (hm : 0 < m) (b1 : k + m ≤ maxLen) (b2 : (k + m) * bytes ≤ 140737488355328)
    (hK : ∀ w' R' N' cap', RowAt w' R' e N' (xs ++ news) → k + m ≤ cap' → cap' ≤ maxLen → cap' * size ≤ N' → (R' = R ∨ w.heap.size ≤ R') → w.grownBy w' (some R) → wpList P ops Q rest (a.put o.dst (.slice (some ⟨R', 0, none⟩) (k + m) cap')) w') :
    wpList P ops Q (o :: rest) a w := by
  by_cases hroom : k + m ≤ cap
  · exact wpList_append_row w hg s x t hop e i size ht hi hsz R e N k cap xs hs hR hxl ad m c news hx hn hc h1c hroom (Nat.le_trans (Nat.mul_le_mul_right _ hroom) hN)
      fun w' h1 h2 => hK w' R N cap h1 hroom hcm hN (.inl rfl) h2
  · refine wpList_plain hg fun K hK' => ?_
    obtain ⟨v', w', hrun, r1, r2⟩ := run_append_arg_grows (P := P) w t o.type e i z size bytes ht hi hz hsz hby hzs hpos ⟨R, 0, none⟩ k cap xs hxl (fun j u hj => by rw [Addr.add_lit, Nat.zero_add]; exact hR.cell j u hj) ad m c news hn hc (by omega) b1 b2
    rcases r1.2 with ⟨_, h0⟩ | ⟨g, cap', cur, rfl, hb, hgg, h3, h4, h5, h6⟩
    · omega
    · unfold Oper.wp
      simp [execOp, hop, resolve, invoke, builtin, hs, hx, hrun, Result.andThen]
      refine hK' _ _ (hK w' g cur.size cap' ⟨cur, hgg, rfl, ?_, ?_⟩ h3 h4 (Nat.le_of_eq h5.symm) (.inr hb) ⟨r2.os, r2.tape, r2.output, r2.size, fun q hq _ => r2.block q hq (by simp)⟩)
      · rw [r1.1]; exact h6
      · rw [r1.1, h5]; exact Nat.mul_le_mul_right _ h3
end Go.Proofs.Ytbhhebheclfdlaa
