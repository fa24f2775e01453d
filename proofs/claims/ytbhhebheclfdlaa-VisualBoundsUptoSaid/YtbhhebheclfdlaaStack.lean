/- Laws for a slice over an array of the call's own that is filled within its capacity; and for rows of pairs: of whatever program. No conditions. -/
import Derived.Test.YtbhhebheclfdlaaLib
namespace Go.Proofs.Ytbhhebheclfdlaa
set_option linter.unusedVariables false
set_option linter.unusedSimpArgs false
open Go.RowKit

/-- Block R (an array of N cells, of element type t) holds the cells xs at its head. -/
def RowAt (w : World) (R t N : Nat) (xs : List Value) : Prop := ∃ cur, w.heap[R]? = some (.cells cur t (0, 0)) ∧ cur.size = N ∧ cur.toList.take xs.length = xs ∧ xs.length ≤ N

theorem RowAt.lt {w : World} {R t N : Nat} {xs : List Value} (h : RowAt w R t N xs) : R < w.heap.size := by
  obtain ⟨cur, hg, _⟩ := h
  exact (Array.getElem?_eq_some_iff.1 hg).1
theorem RowAt.kept {w w' : World} {R t N : Nat} {xs : List Value} (h : RowAt w R t N xs) (hb : w'.heap[R]? = w.heap[R]?) : RowAt w' R t N xs := by
  obtain ⟨cur, hg, r⟩ := h
  exact ⟨cur, hb.trans hg, r⟩
theorem RowAt.cell {w : World} {R t N : Nat} {xs : List Value} (h : RowAt w R t N xs) (i : Nat) (v : Value) (hi : xs[i]? = some v) : w.cell? ⟨R, i, none⟩ = some v := by
  obtain ⟨cur, hg, hN, ht, _⟩ := h
  have : cur[i]? = some v := by
    rw [← ht, List.getElem?_take] at hi
    split at hi
    · simpa using hi
    · cases hi
  simp [World.cell?, hg, this]
theorem RowAt.take {w : World} {R t N : Nat} {xs : List Value} (h : RowAt w R t N xs) (m : Nat) : RowAt w R t N (xs.take m) := by
  obtain ⟨cur, hg, hN, ht, hle⟩ := h
  refine ⟨cur, hg, hN, ?_, by rw [List.length_take]; omega⟩
  rw [List.length_take]
  by_cases hm : m ≤ xs.length
  · rw [Nat.min_eq_left hm, ← ht, List.take_take, Nat.min_eq_left hm]
  · rw [Nat.min_eq_right (by omega), ht, List.take_of_length_le (by omega)]

/-- 'append' within the capacity of an array: the block's own element type is whatever. -/
theorem run_append_row {P : Program} (w : World) (t ty e : TypeId) (i : TypeInfo) (size : Nat) (ht : P.underlying t = some (.slice e)) (hi : P.info? e = some i) (hs : i.size = size)
    (R tb N k cap : Nat) (xs : List Value) (hR : RowAt w R tb N xs) (hx : xs.length = k * size)
    (a : Addr) (m c : Nat) (news : List Value) (hl : news.length = m * size) (hnews : ∀ j u, news[j]? = some u → w.cell? (a.add j) = some u) (h1 : ∀ u ∈ news, u.oneCell' = true)
    (hroom : k + m ≤ cap) (hfit : (k + m) * size ≤ N) :
    ∃ w', (Builtin.append_ #[t, t] ty #[.slice (some ⟨R, 0, none⟩) k cap, .slice (some a) m c]).run P w = .ok (.slice (some ⟨R, 0, none⟩) (k + m) cap) w' ∧
      RowAt w' R tb N (xs ++ news) ∧ w.grownBy w' (some R) := by
  subst hs
  obtain ⟨cur, hg, hN, htake, hle⟩ := hR
  have hf := run_firstCells_some (P := P) w i.size m a m c news hl hnews
  have hfit' : k * i.size + news.length ≤ cur.size := by rw [hN, hl]; rw [Nat.add_mul] at hfit; exact hfit
  have hst := run_storeCells_at P R (k * i.size) tb news 0 cur w hg (by simpa using hfit') h1
  simp only [Nat.add_zero] at hst
  refine ⟨_, by simp [Builtin.append_, run_underlying ht, sizeOf, typeInfo, hi, Builtin.lenOf, hroom, hf, Addr.add_lit, hst]; rfl, ?_, ?_⟩
  · have hcl : cur.toList.length = N := by simpa using hN
    rw [hx] at htake
    rw [hx] at hle
    rw [Nat.add_mul, ← hl] at hfit
    refine ⟨_, setRow_heap w R cur _ tb (0, 0) hg, ?_, ?_, ?_⟩
    · simp [hN]; omega
    · rw [htake]
      rw [← List.append_assoc, List.take_left]
    · simp [hx]; omega
  · refine ⟨rfl, rfl, rfl, by simp [World.setRow], fun q hq hne => ?_⟩
    simp only [World.setRow, Array.getElem?_modify]
    rw [if_neg (fun e => hne (by rw [e]))]

theorem wpList_append_row {P : Program} (w : World) {ops : Array Oper} {rest : List Oper} {o : Oper} {a : Act} {Q : Exit → Act → World → Prop}
    (hg : o.guard = none) (s x : Operand) (t : TypeId) (hop : o.op = Op.call { callee := Callee.builtin Builtin.append, args := #[s, x], argTypes := #[t, t] })
    (e : TypeId) (i : TypeInfo) (size : Nat) (ht : P.underlying t = some (.slice e)) (hi : P.info? e = some i) (hsz : i.size = size)
    (R tb N k cap : Nat) (xs : List Value) (hs : a.eval s = .slice (some ⟨R, 0, none⟩) k cap) (hR : RowAt w R tb N xs) (hxl : xs.length = k * size)
    (ad : Addr) (m c : Nat) (news : List Value) (hx : a.eval x = .slice (some ad) m c) (hn : news.length = m * size)
    (hc : ∀ j u, news[j]? = some u → w.cell? (ad.add j) = some u) (h1c : ∀ u ∈ news, u.oneCell' = true) (b1 : k + m ≤ cap) (b2 : (k + m) * size ≤ N)
    (hK : ∀ w', RowAt w' R tb N (xs ++ news) → w.grownBy w' (some R) → wpList P ops Q rest (a.put o.dst (.slice (some ⟨R, 0, none⟩) (k + m) cap)) w') :
    wpList P ops Q (o :: rest) a w := by
  refine wpList_plain hg fun K hK' => ?_
  obtain ⟨w', hrun, r1, r2⟩ := run_append_row (P := P) w t o.type e i size ht hi hsz R tb N k cap xs hR hxl ad m c news hn hc h1c b1 b2
  unfold Oper.wp
  simp [execOp, hop, resolve, invoke, builtin, hs, hx, hrun, Result.andThen]
  exact hK' _ _ (hK w' r1 r2)

theorem run_append_empty {P : Program} {w : World} (base : Nat) (t ty e : TypeId) (i : TypeInfo) (size : Nat) (ht : P.underlying t = some (.slice e)) (hi : P.info? e = some i)
    (v : Value) (n : Nat) (xs : List Value) (hown : w.ownsRow base e size v n xs) (ao : Option Addr) (c : Nat) :
    (Builtin.append_ #[t, t] ty #[v, .slice ao 0 c]).run P w = .ok v w := by
  have hf : (Builtin.firstCells i.size 0 (.slice ao 0 c)).run P w = .ok #[] w := by
    cases ao with
    | none => simp [Builtin.firstCells]
    | some a => exact run_firstCells_some (P := P) w i.size 0 a 0 c [] (by simp) (by simp)
  rcases hown.2 with ⟨rfl, rfl⟩ | ⟨g, cap, cur, rfl, _, _, hnc, _⟩
  · simp [Builtin.append_, run_underlying ht, sizeOf, typeInfo, hi, Builtin.lenOf, hf]
  · simp [Builtin.append_, run_underlying ht, sizeOf, typeInfo, hi, Builtin.lenOf, hf, hnc, storeCells]

/-- 'append(out, xs...)' where xs is nil, empty, or not: out is nil or the call's own. -/
theorem wpList_append_src {P : Program} (w : World) {ops : Array Oper} {rest : List Oper} {o : Oper} {a : Act} {Q : Exit → Act → World → Prop} (hgd : o.guard = none) (s x : Operand) (t : TypeId)
    (ho : o.op = .call { callee := .builtin .append, args := #[s, x], argTypes := #[t, t] })
    (base : Nat) (e : TypeId) (i : TypeInfo) (z : Value) (size bytes : Nat) (ht : P.underlying t = some (.slice e)) (hi : P.info? e = some i) (hz : i.zero = some z)
    (hsize : i.size = size) (hby : i.bytes = bytes) (hzs : z.cells.size = size) (hsz : 0 < size)
    (v : Value) (n : Nat) (xs : List Value) (hs : a.eval s = v) (hown : w.ownsRow base e size v n xs)
    (ao : Option Addr) (m c : Nat) (news : List Value) (hx : a.eval x = .slice ao m c) (hl : news.length = m * size) (hsrc : m = 0 ∨ ∃ ad, ao = some ad ∧ ∀ j u, news[j]? = some u → w.cell? (ad.add j) = some u)
    (h1 : ∀ u ∈ news, u.oneCell' = true)
    (h63 : n + m ≤ maxLen) (hbytes : (n + m) * bytes ≤ 140737488355328) (hbase : base ≤ w.heap.size)
    (h : ∀ v' w', w'.ownsRow base e size v' (n + m) (xs ++ news) → w.grownBy w' v.ownBlock → wpList P ops Q rest (a.put o.dst v') w') : wpList P ops Q (o :: rest) a w := by
  rcases hsrc with rfl | ⟨ad, rfl, hc⟩
  · obtain rfl : news = [] := by simpa using hl
    refine wpList_plain hgd fun K hK => ?_
    have hrun := run_append_empty (P := P) (w := w) base t o.type e i size ht hi v n xs hown ao c
    unfold Oper.wp
    simp [execOp, ho, resolve, invoke, builtin, hs, hx, hrun, Result.andThen]
    exact hK _ _ (h v w (by simpa using hown) (World.grownBy.refl _ _))
  · exact wpList_append_own w hgd s x t ho base e i z size bytes ht hi hz hsize hby hzs hsz v n xs hs hown ad m c news hx hl hc h1 h63 hbytes hbase fun v' w' h2 h3 _ => h v' w' h2 h3

/-- A slice of integers of the call's own (nil, if it is empty, or at a row's head): it reads as 'out'. -/
def OutAt (k : IntKind) (e : Nat) (w : World) (base : Nat) (ao : Option Addr) (cap : Nat) (out : List Int) : Prop :=
  w.ownsRow base e 1 (.slice ao out.length cap) out.length (out.map (Value.int k))
theorem ith_get {l : List Int} {i : Nat} (h : i < l.length) : l[i]? = some (ith l i) := by
  rw [ith, List.getD_eq_getElem?_getD, List.getElem?_eq_getElem h]; rfl
theorem ith_set (l : List Int) (i j : Nat) (v : Int) (h : i < l.length) : ith (l.set i v) j = if i = j then v else ith l j := by
  unfold ith
  rw [List.getD_eq_getElem?_getD, List.getElem?_set, List.getD_eq_getElem?_getD]
  by_cases e : i = j
  · subst e; simp [h]
  · simp [e]
theorem OutAt.of {k : IntKind} {e base n : Nat} {w : World} {v : Value} {out : List Int} (h : w.ownsRow base e 1 v n (out.map (Value.int k))) (hn : out.length = n) :
    ∃ ao cap, v = .slice ao n cap ∧ OutAt k e w base ao cap out := by
  subst hn
  rcases h.2 with ⟨h1, h0⟩ | ⟨g, cap, cur, h1, _⟩
  · exact ⟨none, 0, by rw [h1, h0], by unfold OutAt; rw [h0, ← h1]; rw [h0] at h; exact h⟩
  · exact ⟨_, cap, h1, by unfold OutAt; rw [← h1]; exact h⟩
theorem OutAt.at {k : IntKind} {e base cap : Nat} {w : World} {ao : Option Addr} {out : List Int} (h : OutAt k e w base ao cap out) (i : Nat) (hi : i < out.length) :
    ∃ G, ao = some ⟨G, 0, none⟩ ∧ base ≤ G ∧ G < w.heap.size ∧ w.cell? ⟨G, i, none⟩ = some (.int k (ith out i)) ∧ w.frozen? ⟨G, i, none⟩ = false ∧ out.length ≤ cap ∧ cap ≤ maxLen := by
  obtain ⟨_, h2⟩ := h
  rcases h2 with ⟨h1, h0⟩ | ⟨g, cap', cur, h1, hb, hg, hc, hm, hs, ht⟩
  · omega
  · cases h1
    have hx : cur[i]? = some (.int k (ith out i)) := by
      have : (cur.toList.take (out.length * 1))[i]? = (out.map (Value.int k))[i]? := by rw [ht]
      rw [List.getElem?_take, if_pos (by omega), List.getElem?_map, ith_get hi] at this
      simpa using this
    exact ⟨g, rfl, hb, (Array.getElem?_eq_some_iff.1 hg).1, by simp [World.cell?, hg, hx], by simp [World.frozen?, hg], hc, hm⟩
theorem OutAt.set {k : IntKind} {e base cap G : Nat} {w : World} {out : List Int} (h : OutAt k e w base (some ⟨G, 0, none⟩) cap out) (i : Nat) (v : Int) :
    OutAt k e (w.setCell ⟨G, i, none⟩ (.int k v)) base (some ⟨G, 0, none⟩) cap (out.set i v) := by
  have := (World.ownsRow.stored h i (.int k v)).1
  unfold OutAt
  rw [List.length_set, List.map_set]
  exact this
theorem OutAt.keep {k : IntKind} {e base cap : Nat} {w w' : World} {ao : Option Addr} {out : List Int} (h : OutAt k e w base ao cap out) (hb : Below w.heap.size w w') : OutAt k e w' base ao cap out :=
  World.ownsRow.kept h (row := none) ⟨hb.os, hb.tape, hb.output, hb.size, fun q hq _ => hb.block q hq⟩ (by cases (Value.slice ao out.length cap).ownBlock <;> simp)
theorem OutAt.rd {k : IntKind} {e base cap : Nat} {w : World} {ao : Option Addr} {out : List Int} (h : OutAt k e w base ao cap out) : Rd k w ao out := by
  by_cases h0 : out = []
  · exact .inl h0
  · have hl : 0 < out.length := List.length_pos_iff.2 h0
    obtain ⟨G, hG, _, hlt, _⟩ := h.at 0 hl
    refine .inr ⟨G, 0, hG, hlt, fun i hi => ?_⟩
    obtain ⟨G', hG', _, _, hc, _⟩ := h.at i hi
    rw [hG] at hG'
    cases hG'
    rw [Nat.zero_add]; exact hc
theorem OutAt.lt {k : IntKind} {e base cap G : Nat} {w : World} {out : List Int} (h : OutAt k e w base (some ⟨G, 0, none⟩) cap out) : base ≤ G ∧ G < w.heap.size :=
  World.ownsRow.lt h G rfl
end Go.Proofs.Ytbhhebheclfdlaa
