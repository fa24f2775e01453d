/- Worlds in which only some of the old blocks may have turned; lists that are copied, compared as strings or number by number. -/
import Derived.Test.YtbhhebheclfdlaaWake
import Derived.Maps.AppendAt
import Derived.Laws.BytesArg
import Derived.Lib.BufferRead
namespace Go.Proofs.Ytbhhebheclfdlaa
set_option linter.unusedVariables false
set_option linter.unusedSimpArgs false
open Go.RowKit

/-- Of the old blocks only those in S may have turned. -/
structure Only (S : Nat → Prop) (w w' : World) : Prop where
  os : w'.os = w.os
  tape : w'.tape = w.tape
  output : w'.output = w.output
  size : w.heap.size ≤ w'.heap.size
  block : ∀ k, k < w.heap.size → ¬ S k → w'.heap[k]? = w.heap[k]?
theorem Only.refl (S : Nat → Prop) (w : World) : Only S w w := ⟨rfl, rfl, rfl, Nat.le_refl _, fun _ _ _ => rfl⟩
theorem Only.trans {S : Nat → Prop} {w w' w'' : World} (h : Only S w w') (k : Only S w' w'') : Only S w w'' :=
  ⟨k.os.trans h.os, k.tape.trans h.tape, k.output.trans h.output, Nat.le_trans h.size k.size, fun q hq hn => by
    have := h.size
    exact (k.block q (by omega) hn).trans (h.block q hq hn)⟩
theorem Only.weak {S T : Nat → Prop} {w w' : World} (h : Only S w w') (hs : ∀ k, S k → T k) : Only T w w' :=
  ⟨h.os, h.tape, h.output, h.size, fun q hq hn => h.block q hq fun e => hn (hs q e)⟩
theorem Only.set {S : Nat → Prop} {w w' : World} (h : Only S w w') {p : Nat} (hp : S p) (i : Nat) (v : Value) : Only S w (w'.setCell ⟨p, i, none⟩ v) :=
  ⟨h.os, h.tape, h.output, by simpa [World.setCell] using h.size, fun q hq hn => (heap_setCell_other w' ⟨p, i, none⟩ q v (fun e => hn (by have e' : q = p := e; rw [e']; exact hp))).trans (h.block q hq hn)⟩
theorem Only.alloc {S : Nat → Prop} {w w' : World} (h : Only S w w') (o : Obj) : Only S w (w'.alloc o) :=
  ⟨h.os, h.tape, h.output, by have := h.size; simp; omega, fun q hq hn => (Below.heap_alloc w' o q (by have := h.size; omega)).trans (h.block q hq hn)⟩
theorem Only.drewN {S : Nat → Prop} {w w' : World} (h : Only S w w') (n : Nat) : Only S w (w'.drewN n) := ⟨h.os, h.tape, h.output, h.size, h.block⟩
theorem Only.grown {S : Nat → Prop} {w w' w'' : World} (h : Only S w w') {row : Option Nat} (hg : w'.grownBy w'' row) (hr : ∀ k, row = some k → S k ∨ w.heap.size ≤ k) : Only S w w'' := by
  refine ⟨hg.os.trans h.os, hg.tape.trans h.tape, hg.output.trans h.output, Nat.le_trans h.size hg.size, fun q hq hn => ?_⟩
  have := h.size
  exact (hg.block q (by omega) (fun e => by
    rcases hr q e.symm with c | c
    · exact hn c
    · omega)).trans (h.block q hq hn)
theorem Only.of {S : Nat → Prop} {w w' : World} (h : Below w.heap.size w w') : Only S w w' := ⟨h.os, h.tape, h.output, h.size, fun q hq _ => h.block q hq⟩
theorem Only.own {S : Nat → Prop} {w w' : World} (h : Only S w w') {base e size n : Nat} {v : Value} {xs : List Value} (ho : w.ownsRow base e size v n xs) (hp : ∀ g, v.ownBlock = some g → ¬ S g) : w'.ownsRow base e size v n xs := by
  refine ⟨ho.1, ?_⟩
  rcases ho.2 with hn | ⟨g, cap, cur, rfl, hb, hg, r⟩
  · exact .inl hn
  · exact .inr ⟨g, cap, cur, rfl, hb, (h.block g (Array.getElem?_eq_some_iff.1 hg).1 (hp g rfl)).trans hg, r⟩
theorem Only.below {S : Nat → Prop} {B : Nat} {w0 w w' : World} (h : Only S w w') (h0 : Below B w0 w) (hB : B ≤ w.heap.size) (hS : ∀ k, S k → B ≤ k) : Below B w0 w' :=
  h0.trans ⟨h.os, h.tape, h.output, h.size, fun q hq => h.block q (by omega) fun e => by have := hS q e; omega⟩
theorem rd_src {k : IntKind} {w w' : World} {a : Option Addr} {xs : List Int} (h : Rd k w a xs) (hb : Below w.heap.size w w') :
    xs.length = 0 ∨ ∃ ad, a = some ad ∧ ∀ j u, (xs.map (Value.int k))[j]? = some u → w'.cell? (ad.add j) = some u := by
  rcases h with h | ⟨b, off, h1, h2, h3⟩
  · subst h; exact .inl rfl
  · refine .inr ⟨_, h1, fun j u hu => ?_⟩
    rw [List.getElem?_map] at hu
    cases hx : xs[j]? with
    | none => rw [hx] at hu; cases hu
    | some x =>
      have hj : j < xs.length := (List.getElem?_eq_some_iff.1 hx).1
      rw [ith_get hj] at hu
      simp only [Option.map_some, Option.some.injEq] at hu
      rw [Addr.add_lit, ← hu]
      exact cell_bl hb h2 (h3 j hj)
theorem out_cap' {k : IntKind} {e base cap : Nat} {w : World} {ao : Option Addr} {out : List Int} (h : OutAt k e w base ao cap out) : out.length ≤ cap := by
  obtain ⟨a, c, h1, h2, _⟩ := own_slice h
  simp only [Value.slice.injEq] at h1
  omega
theorem Rd.head {k : IntKind} {w : World} {a : Option Addr} {xs : List Int} (h : Rd k w a xs) (m : Nat) : Rd k w a (xs.take m) := by
  rcases h with h | ⟨b, off, h1, h2, h3⟩
  · subst h; exact .inl (by simp)
  · refine .inr ⟨b, off, h1, h2, fun i hi => ?_⟩
    rw [List.length_take] at hi
    have e : ith (xs.take m) i = ith xs i := by
      unfold ith
      rw [List.getD_eq_getElem?_getD, List.getElem?_take, if_pos (by omega), List.getD_eq_getElem?_getD]
    rw [e]
    exact h3 i (by omega)
/-- what 'Turned' answers, as one list: nil is the empty one -/
theorem opt_list {k : IntKind} {t n : Nat} {R : Option (List Int)} {w w' : World} {e : Ending} (h : OptPost k t R n w e w') (T : List Int) (hT : R.getD [] = T) (tn : Nat) (ht : T.length = tn) :
    Below w.heap.size w w' ∧ tn ≤ n ∧ ∃ a c, e = .returned (.slice a tn c) ∧ OutAt k t w' w.heap.size a c T := by
  obtain ⟨h1, h2⟩ := h
  subst hT ht
  cases R with
  | none => exact ⟨h1, Nat.zero_le _, none, 0, h2, World.ownsRow_nil _ _ _ _⟩
  | some l =>
    obtain ⟨hl, a, c, he, ho⟩ := h2
    have hl' : ((some l).getD ([] : List Int)).length = n := hl
    rw [hl']
    exact ⟨h1, Nat.le_refl _, a, c, he, ho⟩
/-- two lists of numbers that read alike are said to be the same -/
theorem SameInts_any (pa pb : Option Addr) (n ca cb : Nat) (w : World) (h : ∃ xs : List Int, xs.length = n ∧ Rd .i64 w pa xs ∧ Rd .i64 w pb xs) (hn : n ≤ 2097152) :
    Calls Try.prog 21 #[.slice pa n ca, .slice pb n cb] w fun e w' => e = .returned (.bool true) ∧ ∃ m, w' = w.drewN m := by
  obtain ⟨xs, hl, ha, hb⟩ := h
  have HL := Lib.hid hl
  clear hl
  go_enter Try.func21, Try.ntmps21
  go_wp2_with (fail)
  go_loopw [5] (fun c wx => ∃ (i m : Nat), i ≤ n ∧ c = .int .i64 i ∧ wx = w.drewN m) (fun c _ => n - (intOf c).toNat)
  case atStart => exact ⟨0, 0, by omega, rfl, rfl⟩
  case round =>
    obtain ⟨i, m, hi, rfl, rfl⟩ := hrel
    by_cases hlt : i < n
    · obtain ⟨G1, o1, rfl, _, hc0⟩ := ha.at (Below.refl _ _) i (by rw [HL.out]; exact hlt)
      obtain ⟨G2, o2, rfl, _, hd0⟩ := hb.at (Below.refl _ _) i (by rw [HL.out]; exact hlt)
      generalize ith xs i = x at hc0 hd0
      have g0 : (0 : Int) ≤ (i : Int) := by omega
      have g1 : (i : Int) < (n : Int) := by omega
      go_wp2_with (fail)
      go_quiet (fail)
      go_wp2_with (fail)
      go_roundw
      case rel => exact ⟨i + 1, _, by omega, by go_num, rfl⟩
      case measure => simp [intOf]; omega
    · go_wp2_with (fail)
      go_ret
      exact ⟨rfl, _, rfl⟩
/-- a list of levels as a string -/
theorem conv_rd {w : World} {n cap : Nat} {a : Option Addr} {xs : List Int} (h : Rd .u8 w a xs) (hn : xs.length = n) :
    (convert 23 9 (.slice a n cap)).run Try.prog w = .ok (.string (strOfNums xs)) w := by
  subst hn
  rcases h with rfl | ⟨b, off, rfl, _, h3⟩
  · cases a with
    | none => exact Lib.run_convert_nil_bytes w _ _ _ _ Try.underlying23 Try.underlying5 Try.underlying9
    | some x =>
      rw [run_convert_bytes_string w _ _ _ _ _ cap Try.underlying23 Try.underlying5 Try.underlying9]
      rw [show ([] : List Int).length = 0 from rfl, run_bytesToString w _ 0 cap [] (run_loadCells_list (P := Try.prog) w x [] (fun j v hj => by simp at hj)), foldl_push_bytes]
      simp [strOfNums, ByteArray.empty, ByteArray.emptyWithCapacity]
      rfl
  · exact run_convert_bytes_arg w _ _ Try.underlying23 Try.underlying5 b off xs.length cap xs rfl h3 _ Try.underlying9
/-- two lists of levels that read alike are said to be the same -/
theorem SameLevels_any (pa pb : Option Addr) (n ca cb : Nat) (w : World) (h : ∃ xs : List Int, xs.length = n ∧ Rd .u8 w pa xs ∧ Rd .u8 w pb xs) :
    Calls Try.prog 14 #[.slice pa n ca, .slice pb n cb] w fun e w' => e = .returned (.bool true) ∧ w = w' := by
  obtain ⟨xs, hl, h1, h2⟩ := h
  have c1 := conv_rd (cap := ca) h1 hl
  have c2 := conv_rd (cap := cb) h2 hl
  clear h1 h2
  go_enter Try.func14, Try.ntmps14
  go_wp2_with (fail)
  go_ret
  exact ⟨ret_b (by simp), rfl⟩
end Go.Proofs.Ytbhhebheclfdlaa
