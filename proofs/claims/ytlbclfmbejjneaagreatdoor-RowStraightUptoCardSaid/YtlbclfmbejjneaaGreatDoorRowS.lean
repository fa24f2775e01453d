/- Rows of a line as lists. No conditions. -/
import Derived.Test.YtlbclfmbejjneaaGreatDoorSpecW
import Derived.Test.YtlbclfmbejjneaaGreatDoorBlk
import Derived.Deep.QuietTactic
import Derived.BigQuiet
import Derived.Laws.StructEq
namespace Go.Proofs.YtlbclfmbejjneaaGreatDoor
set_option linter.unusedVariables false
set_option linter.unusedSimpArgs false
open Go.RowKit Go.Proofs Go.Shelf
attribute [local go_sem] Oper.semAt_some

/-- a row, as the program tells it -/
structure RowV where
  a : Int
  len : Int
  level : Int
  wide : Int
  fin : Int
deriving DecidableEq
def rcell (r : RowV) : List Value := [.int .i64 r.a, .int .i64 r.len, .int .u8 r.level, .int .i64 r.wide, .int .i8 r.fin]
theorem flat5_len (l : List RowV) : (l.flatMap rcell).length = l.length * 5 := by
  induction l with
  | nil => rfl
  | cons x l ih => rw [List.flatMap_cons, List.length_append, ih, List.length_cons]; show 5 + _ = _; omega
theorem flat5_get (l : List RowV) (i : Nat) (r : RowV) (h : l[i]? = some r) (k : Nat) (v : Value) (hv : (rcell r)[k]? = some v) : (l.flatMap rcell)[i * 5 + k]? = some v := by
  have hk : k < 5 := by
    have := (List.getElem?_eq_some_iff.1 hv).1
    exact this
  induction l generalizing i with
  | nil => simp at h
  | cons x l ih =>
    rw [List.flatMap_cons]
    cases i with
    | zero =>
      have : x = r := by simpa using h
      subst this
      rw [Nat.zero_mul, Nat.zero_add, List.getElem?_append_left (show k < 5 from hk)]
      exact hv
    | succ i =>
      rw [List.getElem?_append_right (show 5 ≤ _ by omega), show (i + 1) * 5 + k - (rcell x).length = i * 5 + k from by show (i + 1) * 5 + k - 5 = _; omega]
      exact ih i (by simpa using h)
/-- a slice that reads as a list of rows -/
def RdR (w : World) (a : Option Addr) (l : List RowV) : Prop :=
  l = [] ∨ ∃ b off, a = some ⟨b, off, none⟩ ∧ b < w.heap.size ∧ ∀ i r, l[i]? = some r → ∀ k v, (rcell r)[k]? = some v → w.cell? ⟨b, off + i * 5 + k, none⟩ = some v
theorem RdR.below {w w' : World} {a : Option Addr} {l : List RowV} (h : RdR w a l) (hb : Below w.heap.size w w') : RdR w' a l := by
  rcases h with h | ⟨b, off, h1, h2, h3⟩
  · exact .inl h
  · exact .inr ⟨b, off, h1, Nat.lt_of_lt_of_le h2 hb.size, fun i r hi k v hv => cell_bl hb h2 (h3 i r hi k v hv)⟩
theorem RdR.drewN {w : World} {a : Option Addr} {l : List RowV} (h : RdR w a l) (m : Nat) : RdR (w.drewN m) a l := h
theorem RdR.at {w : World} {a : Option Addr} {l : List RowV} (h : RdR w a l) (i : Nat) (r : RowV) (hr : l[i]? = some r) :
    ∃ b off, a = some ⟨b, off, none⟩ ∧ b < w.heap.size ∧ w.cell? ⟨b, off + i * 5, none⟩ = some (.int .i64 r.a) ∧ w.cell? ⟨b, off + i * 5 + 1, none⟩ = some (.int .i64 r.len) ∧ w.cell? ⟨b, off + i * 5 + 2, none⟩ = some (.int .u8 r.level) ∧
      w.cell? ⟨b, off + i * 5 + 3, none⟩ = some (.int .i64 r.wide) ∧ w.cell? ⟨b, off + i * 5 + 4, none⟩ = some (.int .i8 r.fin) := by
  rcases h with h | ⟨b, off, h1, h2, h3⟩
  · subst h; simp at hr
  · exact ⟨b, off, h1, h2, h3 i r hr 0 _ rfl, h3 i r hr 1 _ rfl, h3 i r hr 2 _ rfl, h3 i r hr 3 _ rfl, h3 i r hr 4 _ rfl⟩
theorem row_fields : (Tryz.prog.fieldsOf 24).toList = [{ name := "At", type := 3, offset := 0, embedded := false, tag := "", pkgPath := "", byteOffset := 0 }, { name := "Len", type := 3, offset := 1, embedded := false, tag := "", pkgPath := "", byteOffset := 8 }, { name := "Level", type := 5, offset := 2, embedded := false, tag := "", pkgPath := "", byteOffset := 16 }, { name := "Wide", type := 3, offset := 3, embedded := false, tag := "", pkgPath := "", byteOffset := 24 }, { name := "End", type := 22, offset := 4, embedded := false, tag := "", pkgPath := "", byteOffset := 32 }] := by kernel_rfl
theorem row_held : Tryz.prog.stoodInHeld 24 = false := by kernel_rfl
theorem row_under : Tryz.prog.underlying 24 = some (.struct (Tryz.prog.fieldsOf 24)) := by kernel_rfl
def rowV (r : RowV) : Value := .agg #[.int .i64 r.a, .int .i64 r.len, .int .u8 r.level, .int .i64 r.wide, .int .i8 r.fin]
theorem Tryz.eq_row (r s : RowV) (w : World) :
    (Op.equalIn 10000 24 (.agg #[.int .i64 r.a, .int .i64 r.len, .int .u8 r.level, .int .i64 r.wide, .int .i8 r.fin]) (.agg #[.int .i64 s.a, .int .i64 s.len, .int .u8 s.level, .int .i64 s.wide, .int .i8 s.fin])).run Tryz.prog w = .ok (decide (r = s)) w := by
  obtain ⟨a1, a2, a3, a4, a5⟩ := r
  obtain ⟨b1, b2, b3, b4, b5⟩ := s
  dsimp only
  rw [run_equalIn_struct w 9999 24 _ _ row_under row_held, row_fields]
  have p3 : ∀ (xs : Array Value) (off : Nat) (v : Value) (w : World), xs[off]? = some v → (part 3 xs off).run Tryz.prog w = .ok v w := fun xs off v w hx => by simp [part, isAgg, run_underlying Tryz.underlying3, hx]
  have p5 : ∀ (xs : Array Value) (off : Nat) (v : Value) (w : World), xs[off]? = some v → (part 5 xs off).run Tryz.prog w = .ok v w := fun xs off v w hx => by simp [part, isAgg, run_underlying Tryz.underlying5, hx]
  have p22 : ∀ (xs : Array Value) (off : Nat) (v : Value) (w : World), xs[off]? = some v → (part 22 xs off).run Tryz.prog w = .ok v w := fun xs off v w hx => by simp [part, isAgg, run_underlying Tryz.underlying22, hx]
  have e3 := fun (a b : Int) => run_equalIn_int w 9998 3 .i64 .i64 a b Tryz.underlying3
  have e5 := fun (a b : Int) => run_equalIn_int w 9998 5 .u8 .u8 a b Tryz.underlying5
  have e22 := fun (a b : Int) => run_equalIn_int w 9998 22 .i8 .i8 a b Tryz.underlying22
  simp only [Nat.reduceAdd] at e3 e5 e22
  have key : ∀ (f : Field) (fs : List Field) (xs ys : Array Value) (x y : Value) (b : Bool), f.name ≠ "_" → (part f.type xs f.offset).run Tryz.prog w = .ok x w → (part f.type ys f.offset).run Tryz.prog w = .ok y w → (Op.equalIn 9999 f.type x y).run Tryz.prog w = .ok b w →
      (Op.eqFields 9999 xs ys (f :: fs)).run Tryz.prog w = if b = true then (Op.eqFields 9999 xs ys fs).run Tryz.prog w else .ok false w := by
    intro f fs xs ys x y b h0 h1 h2 h3
    simp only [Op.eqFields, if_pos h0, Sem.run_bind, h1, h2, h3, Result.andThen_ok]
    cases b <;> simp [Sem.run_pure]
  refine Eq.trans (key _ _ _ _ _ _ _ (by simp) (p3 _ _ _ w (by rfl)) (p3 _ _ _ w (by rfl)) (e3 _ _)) ?_
  by_cases h1 : a1 = b1
  case neg => rw [if_neg (by simpa using h1), decide_eq_false (by simp [h1])]
  rw [if_pos (by simpa using h1)]
  refine Eq.trans (key _ _ _ _ _ _ _ (by simp) (p3 _ _ _ w (by rfl)) (p3 _ _ _ w (by rfl)) (e3 _ _)) ?_
  by_cases h2 : a2 = b2
  case neg => rw [if_neg (by simpa using h2), decide_eq_false (by simp [h2])]
  rw [if_pos (by simpa using h2)]
  refine Eq.trans (key _ _ _ _ _ _ _ (by simp) (p5 _ _ _ w (by rfl)) (p5 _ _ _ w (by rfl)) (e5 _ _)) ?_
  by_cases h3 : a3 = b3
  case neg => rw [if_neg (by simpa using h3), decide_eq_false (by simp [h3])]
  rw [if_pos (by simpa using h3)]
  refine Eq.trans (key _ _ _ _ _ _ _ (by simp) (p3 _ _ _ w (by rfl)) (p3 _ _ _ w (by rfl)) (e3 _ _)) ?_
  by_cases h4 : a4 = b4
  case neg => rw [if_neg (by simpa using h4), decide_eq_false (by simp [h4])]
  rw [if_pos (by simpa using h4)]
  refine Eq.trans (key _ _ _ _ _ _ _ (by simp) (p22 _ _ _ w (by rfl)) (p22 _ _ _ w (by rfl)) (e22 _ _)) ?_
  by_cases h5 : a5 = b5
  case neg => rw [if_neg (by simpa using h5), decide_eq_false (by simp [h5])]
  rw [if_pos (by simpa using h5)]
  rw [decide_eq_true (by simp [h1, h2, h3, h4, h5])]
  simp [Op.eqFields]
theorem take_snoc {α : Type} {l : List α} {i : Nat} {r : α} (h : l[i]? = some r) : l.take (i + 1) = l.take i ++ [r] := by
  rw [List.take_add_one, h]
  rfl
/-- the places of rows -/
def atsOf (l : List RowV) : List Int := l.map (·.a)
theorem ats_get {l : List RowV} {i : Nat} {r : RowV} (h : l[i]? = some r) : ith (atsOf l) i = r.a := by
  unfold ith atsOf
  rw [List.getD_eq_getElem?_getD, List.getElem?_map, h]
  rfl
theorem dropR_cons {α : Type} {l : List α} {i : Nat} {r : α} (h : l[i]? = some r) : l.drop i = r :: l.drop (i + 1) := by
  obtain ⟨h1, h2⟩ := List.getElem?_eq_some_iff.1 h
  rw [List.drop_eq_getElem_cons h1, h2]
theorem row_cells {W : World} {o : Nat} {r : RowV} {t : Nat} (h : W.heap[o]? = some (.cells #[.int .i64 r.a, .int .i64 r.len, .int .u8 r.level, .int .i64 r.wide, .int .i8 r.fin] t (0, 0))) : W.cell? ⟨o, 0, none⟩ = some (.int .i64 r.a) := by
  simp [World.cell?, h]
end Go.Proofs.YtlbclfmbejjneaaGreatDoor
