/- What wrap's filler.row holds in its blocks while it fills a row; the contract of filler.last. No conditions. -/
import Derived.Test.YtlbclfmbejjneaaGreatDoorText
import Derived.Test.YtlbclfmbejjneaaGreatDoorBlk
namespace Go.Proofs.YtlbclfmbejjneaaGreatDoor
set_option linter.unusedVariables false
set_option linter.unusedSimpArgs false
open Go.RowKit Go.Proofs Go.Shelf
attribute [local go_sem] Oper.semAt_some

theorem blankB_C (c : ByteArray) : blankB c = blankC c := by unfold blankB blankC; simp
/-- a filler's block -/
def FilW (W : World) (f : Nat) (text : ByteArray) (wa : Option Addr) (wn wc : Nat) (e : Bool) (r : Rul) (want : Int) (join : Bool) : Prop :=
  W.heap[f]? = some (.cells #[.string text, .slice wa wn wc, .bool e, .int .i64 r.w, .int .i64 r.tab, .bool r.wideA, .int .i8 want, .bool join, .bool r.raw] 144 (0, 0))
theorem FilW.lt {W : World} {f : Nat} {text : ByteArray} {wa : Option Addr} {wn wc : Nat} {e : Bool} {r : Rul} {want : Int} {join : Bool} (h : FilW W f text wa wn wc e r want join) : f < W.heap.size := (Array.getElem?_eq_some_iff.1 h).1
theorem FilW.below {W W' : World} {f B : Nat} {text : ByteArray} {wa : Option Addr} {wn wc : Nat} {e : Bool} {r : Rul} {want : Int} {join : Bool} (h : FilW W f text wa wn wc e r want join) (hb : Below B W W') (hB : f < B) : FilW W' f text wa wn wc e r want join :=
  (hb.block f hB).trans h
theorem FilW.cells {W : World} {f : Nat} {text : ByteArray} {wa : Option Addr} {wn wc : Nat} {e : Bool} {r : Rul} {want : Int} {join : Bool} (h : FilW W f text wa wn wc e r want join) :
    W.cell? ⟨f, 0, none⟩ = some (.string text) ∧ W.cell? ⟨f, 1, none⟩ = some (.slice wa wn wc) ∧ W.cell? ⟨f, 2, none⟩ = some (.bool e) ∧ W.cell? ⟨f, 3, none⟩ = some (.int .i64 r.w) ∧
    W.cell? ⟨f, 4, none⟩ = some (.int .i64 r.tab) ∧ W.cell? ⟨f, 5, none⟩ = some (.bool r.wideA) ∧ W.cell? ⟨f, 6, none⟩ = some (.int .i8 want) ∧ W.cell? ⟨f, 7, none⟩ = some (.bool join) ∧ W.cell? ⟨f, 8, none⟩ = some (.bool r.raw) := by
  unfold FilW at h
  refine ⟨?_, ?_, ?_, ?_, ?_, ?_, ?_, ?_, ?_⟩ <;> simp [World.cell?, h]
theorem last_any (f : Nat) (text : ByteArray) (wa : Option Addr) (wn wc : Nat) (e : Bool) (r : Rul) (want : Int) (join : Bool) (w : World) (h : FilW w f text wa wn wc e r want join) :
    Calls Tryz.prog 120 #[.pointer (some ⟨f, 0, none⟩)] w fun en w' => en = .returned (.int .i8 (lastEnd e)) ∧ w' = w := by
  have c2 := h.cells.2.2.1
  clear h
  go_enter Tryz.func120, Tryz.ntmps120
  cases e with
  | true =>
    go_wp2_with (fail)
    go_ret
    exact ⟨rfl, rfl⟩
  | false =>
    go_wp2_with (fail)
    go_ret
    exact ⟨rfl, rfl⟩

def rwC (f a n : Nat) (R : Int × Int × Int) (s : Fl) (tail : ByteArray) : Nat → Array Value
  | 0 => #[.pointer (some ⟨f, 0, none⟩)]
  | 1 => #[.int .i64 a, .int .i64 n, .int .i64 0]
  | 2 => #[.int .i64 R.1, .int .i64 R.2.1, .int .i64 R.2.2]
  | 3 => #[.int .i64 s.a, .int .i64 s.n, .int .i64 s.wide]
  | 4 => #[.int .i64 s.ma, .int .i64 s.mn, .int .i64 s.mw]
  | 5 => #[.bool s.hangs]
  | 6 => #[.int .i64 s.c]
  | _ => #[.string tail]
def rwT : Nat → Nat
  | 0 => 140
  | 1 => 146
  | 2 => 146
  | 3 => 146
  | 4 => 146
  | 5 => 4
  | 6 => 3
  | _ => 9
/-- the blocks of a row that is being filled -/
def RwB (W : World) (B f a n : Nat) (R : Int × Int × Int) (s : Fl) (tail : ByteArray) : Prop := Blk W B 8 (rwC f a n R s tail) rwT
theorem lt8 {j : Nat} (h : j < 8) : j = 0 ∨ j = 1 ∨ j = 2 ∨ j = 3 ∨ j = 4 ∨ j = 5 ∨ j = 6 ∨ j = 7 := by omega
section
variable {W W' : World} {B f a n : Nat} {R : Int × Int × Int} {s : Fl} {tail : ByteArray}
theorem RwB.below (h : RwB W B f a n R s tail) (hb : Below W.heap.size W W') : RwB W' B f a n R s tail := Blk.below h hb
theorem RwB.cells (h : RwB W B f a n R s tail) : W.cell? ⟨B, 0, none⟩ = some (.pointer (some ⟨f, 0, none⟩)) ∧ W.cell? ⟨B + 1, 0, none⟩ = some (.int .i64 a) ∧ W.cell? ⟨B + 1, 1, none⟩ = some (.int .i64 n) ∧ W.cell? ⟨B + 1, 2, none⟩ = some (.int .i64 0) ∧
    W.cell? ⟨B + 5, 0, none⟩ = some (.bool s.hangs) ∧ W.cell? ⟨B + 6, 0, none⟩ = some (.int .i64 s.c) ∧ W.cell? ⟨B + 7, 0, none⟩ = some (.string tail) :=
  ⟨Blk.cell h 0 0 (by omega) rfl, Blk.cell h 1 0 (by omega) rfl, Blk.cell h 1 1 (by omega) rfl, Blk.cell h 1 2 (by omega) rfl, Blk.cell h 5 0 (by omega) rfl, Blk.cell h 6 0 (by omega) rfl, Blk.cell h 7 0 (by omega) rfl⟩
theorem RwB.now (h : RwB W B f a n R s tail) : W.cell? ⟨B + 3, 0, none⟩ = some (.int .i64 s.a) ∧ W.cell? ⟨B + 3, 1, none⟩ = some (.int .i64 s.n) ∧ W.cell? ⟨B + 3, 2, none⟩ = some (.int .i64 s.wide) :=
  ⟨Blk.cell h 3 0 (by omega) rfl, Blk.cell h 3 1 (by omega) rfl, Blk.cell h 3 2 (by omega) rfl⟩
theorem RwB.may (h : RwB W B f a n R s tail) : W.cell? ⟨B + 4, 0, none⟩ = some (.int .i64 s.ma) ∧ W.cell? ⟨B + 4, 1, none⟩ = some (.int .i64 s.mn) ∧ W.cell? ⟨B + 4, 2, none⟩ = some (.int .i64 s.mw) :=
  ⟨Blk.cell h 4 0 (by omega) rfl, Blk.cell h 4 1 (by omega) rfl, Blk.cell h 4 2 (by omega) rfl⟩
theorem RwB.frz (h : RwB W B f a n R s tail) (j i : Nat) (hj : j < 8) : W.frozen? ⟨B + j, i, none⟩ = false := Blk.frozen h j i hj
theorem RwB.lt (h : RwB W B f a n R s tail) : B + 8 ≤ W.heap.size := Blk.lt h (by omega)
theorem RwB.setN (h : RwB W B f a n R s tail) (i : Nat) (v : Int) (s' : Fl) (hs : (rwC f a n R s' tail 3) = (rwC f a n R s tail 3).setIfInBounds i (.int .i64 v)) (h4 : s'.ma = s.ma ∧ s'.mn = s.mn ∧ s'.mw = s.mw ∧ s'.hangs = s.hangs ∧ s'.c = s.c) :
    RwB (W.setCell ⟨B + 3, i, none⟩ (.int .i64 v)) B f a n R s' tail := Blk.set h 3 i _ (fun j hj => by
  obtain ⟨e1, e2, e3, e4, e5⟩ := h4
  rcases lt8 hj with rfl | rfl | rfl | rfl | rfl | rfl | rfl | rfl
  case inr.inr.inr.inl => rw [if_pos rfl]; exact hs
  all_goals (rw [if_neg (by decide)]; simp only [rwC, e1, e2, e3, e4, e5]))
theorem RwB.setA (h : RwB W B f a n R s tail) (v : Nat) : RwB (W.setCell ⟨B + 3, 0, none⟩ (.int .i64 v)) B f a n R { s with a := v } tail := h.setN 0 v _ rfl ⟨rfl, rfl, rfl, rfl, rfl⟩
theorem RwB.setK (h : RwB W B f a n R s tail) (v : Nat) : RwB (W.setCell ⟨B + 3, 1, none⟩ (.int .i64 v)) B f a n R { s with n := v } tail := h.setN 1 v _ rfl ⟨rfl, rfl, rfl, rfl, rfl⟩
theorem RwB.setW (h : RwB W B f a n R s tail) (v : Int) : RwB (W.setCell ⟨B + 3, 2, none⟩ (.int .i64 v)) B f a n R { s with wide := v } tail := h.setN 2 v _ rfl ⟨rfl, rfl, rfl, rfl, rfl⟩
theorem RwB.setM (h : RwB W B f a n R s tail) (x y : Nat) (z : Int) :
    RwB (((W.setCell ⟨B + 4, 0, none⟩ (.int .i64 x)).setCell ⟨B + 4, 1, none⟩ (.int .i64 y)).setCell ⟨B + 4, 2, none⟩ (.int .i64 z)) B f a n R { s with ma := x, mn := y, mw := z } tail := by
  have h1 := Blk.set (C' := rwC f a n R { s with ma := x } tail) h 4 0 (.int .i64 x) (fun j hj => by rcases lt8 hj with rfl | rfl | rfl | rfl | rfl | rfl | rfl | rfl <;> rfl)
  have h2 := Blk.set (C' := rwC f a n R { s with ma := x, mn := y } tail) h1 4 1 (.int .i64 y) (fun j hj => by rcases lt8 hj with rfl | rfl | rfl | rfl | rfl | rfl | rfl | rfl <;> rfl)
  exact Blk.set (C' := rwC f a n R { s with ma := x, mn := y, mw := z } tail) h2 4 2 (.int .i64 z) (fun j hj => by rcases lt8 hj with rfl | rfl | rfl | rfl | rfl | rfl | rfl | rfl <;> rfl)
theorem RwB.setR (h : RwB W B f a n R s tail) (x y z : Int) :
    RwB (((W.setCell ⟨B + 2, 0, none⟩ (.int .i64 x)).setCell ⟨B + 2, 1, none⟩ (.int .i64 y)).setCell ⟨B + 2, 2, none⟩ (.int .i64 z)) B f a n (x, y, z) s tail := by
  have h1 := Blk.set (C' := rwC f a n (x, R.2.1, R.2.2) s tail) h 2 0 (.int .i64 x) (fun j hj => by rcases lt8 hj with rfl | rfl | rfl | rfl | rfl | rfl | rfl | rfl <;> rfl)
  have h2 := Blk.set (C' := rwC f a n (x, y, R.2.2) s tail) h1 2 1 (.int .i64 y) (fun j hj => by rcases lt8 hj with rfl | rfl | rfl | rfl | rfl | rfl | rfl | rfl <;> rfl)
  exact Blk.set (C' := rwC f a n (x, y, z) s tail) h2 2 2 (.int .i64 z) (fun j hj => by rcases lt8 hj with rfl | rfl | rfl | rfl | rfl | rfl | rfl | rfl <;> rfl)
theorem RwB.setH (h : RwB W B f a n R s tail) (b : Bool) : RwB (W.setCell ⟨B + 5, 0, none⟩ (.bool b)) B f a n R { s with hangs := b } tail :=
  Blk.set h 5 0 (.bool b) (fun j hj => by rcases lt8 hj with rfl | rfl | rfl | rfl | rfl | rfl | rfl | rfl <;> rfl)
theorem RwB.setC (h : RwB W B f a n R s tail) (v : Int) : RwB (W.setCell ⟨B + 6, 0, none⟩ (.int .i64 v)) B f a n R { s with c := v } tail :=
  Blk.set h 6 0 (.int .i64 v) (fun j hj => by rcases lt8 hj with rfl | rfl | rfl | rfl | rfl | rfl | rfl | rfl <;> rfl)
end
/-- the world in which a row's filling begins -/
def rwW (w : World) (f a n B : Nat) (tail : ByteArray) : World :=
  (((((((w.alloc (.cells (rwC f a n (0, 0, 0) (fl0 a n) tail 0) (rwT 0))).alloc (.cells (rwC f a n (0, 0, 0) (fl0 a n) tail 1) (rwT 1))).alloc (.cells (rwC f a n (0, 0, 0) (fl0 a n) tail 2) (rwT 2))).alloc (.cells (rwC f a n (0, 0, 0) (fl0 a n) tail 3) (rwT 3))).alloc
    (.cells (rwC f a n (0, 0, 0) (fl0 a n) tail 4) (rwT 4))).alloc (.cells (rwC f a n (0, 0, 0) (fl0 a n) tail 5) (rwT 5))).alloc (.cells (rwC f a n (0, 0, 0) (fl0 a n) tail 6) (rwT 6))).alloc (.cells (rwC f a n (0, 0, 0) (fl0 a n) tail 7) (rwT 7))
theorem rw_start (w : World) (f a n B : Nat) (tail : ByteArray) (hB : w.heap.size = B) : RwB (rwW w f a n B tail) B f a n (0, 0, 0) (fl0 a n) tail ∧ Below B w (rwW w f a n B tail) := by
  constructor
  · unfold rwW RwB
    have h0 : Blk w B 0 (rwC f a n (0, 0, 0) (fl0 a n) tail) rwT := Blk.nil
    have h1 := h0.push (by omega)
    have h2 := h1.push (by simp only [World.size_alloc]; omega)
    have h3 := h2.push (by simp only [World.size_alloc]; omega)
    have h4 := h3.push (by simp only [World.size_alloc]; omega)
    have h5 := h4.push (by simp only [World.size_alloc]; omega)
    have h6 := h5.push (by simp only [World.size_alloc]; omega)
    have h7 := h6.push (by simp only [World.size_alloc]; omega)
    exact h7.push (by simp only [World.size_alloc]; omega)
  · unfold rwW
    refine ((((((((Below.refl _ w).alloc (by omega) _).alloc ?_ _).alloc ?_ _).alloc ?_ _).alloc ?_ _).alloc ?_ _).alloc ?_ _).alloc ?_ _ <;> simp only [World.size_alloc] <;> omega
theorem fill_step {r : Rul} {L : List ByteArray} {s0 st : Fl} (h : ∀ R, fillRow r (L ++ R) s0 = fillRow r R st) {x : ByteArray} (hs : (stepF r st x).2 = false) : ∀ R, fillRow r ((L ++ [x]) ++ R) s0 = fillRow r R (stepF r st x).1 := fun R => by
  rw [List.append_assoc, h, List.singleton_append, fillRow, if_neg (by rw [hs]; decide)]
theorem fill_full {r : Rul} {L : List ByteArray} {s0 st : Fl} (h : ∀ R, fillRow r (L ++ R) s0 = fillRow r R st) {x : ByteArray} (hs : (stepF r st x).2 = true) : ∀ R, fillRow r ((L ++ [x]) ++ R) s0 = ((stepF r st x).1, true) := fun R => by
  rw [List.append_assoc, h, List.singleton_append, fillRow, if_pos hs]
/-- how far a row's filling has come, m clusters of at most z bytes being in it -/
def FlB (a n m z : Nat) (s : Fl) : Prop := s.n = n + m ∧ s.a ≤ a + m * z ∧ 0 ≤ s.wide ∧ s.wide ≤ 19 * m ∧ 0 ≤ s.c ∧ s.c ≤ 19
theorem FlB.start (a n z : Nat) : FlB a n 0 z (fl0 a n) := ⟨rfl, by simp [fl0], by simp [fl0], by simp [fl0], by simp [fl0], by simp [fl0]⟩
theorem FlB.adv {a n m z : Nat} {s : Fl} (h : FlB a n m z s) (wh : List Int) (x : Nat) (hx : x ≤ z) : FlB a n (m + 1) z (adv wh x s) := by
  obtain ⟨h1, h2, h3, h4, h5, h6⟩ := h
  refine ⟨by show s.n + 1 = _; omega, ?_, by show 0 ≤ s.wide + s.c; omega, ?_, h5, h6⟩
  · show s.a + x ≤ a + (m + 1) * z
    rw [Nat.add_mul, Nat.one_mul]
    omega
  · show s.wide + s.c ≤ 19 * ((m + 1 : Nat) : Int)
    omega
end Go.Proofs.YtlbclfmbejjneaaGreatDoor
