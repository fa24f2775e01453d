/- Laws for a function that lays a table of steps (a literal of structs of two integers) and hands it to a search: of whatever program. No conditions. -/
import Derived.Test.YtbhhebheclfdlaaSpec02
import Derived.Great.Walk
import Derived.Great.Ranges
namespace Go.Proofs.Ytbhhebheclfdlaa
set_option linter.unusedVariables false
set_option linter.unusedSimpArgs false
open Go.RowKit Go.Great
section
variable {P : Program} {ops : Array Oper} {rest : List Oper} {o : Oper} {a : Act} {w : World} {Q : Exit → Act → World → Prop}

/-- the two cells of a step -/
def cells2 (x : Int × Int) : List Value := [.int .i32 x.1, .int .u8 x.2]
def stOp (t : TypeId) (pos : String) (d : Nat) (x : Int × Int) : Oper :=
  { dst := some d, op := .build t #[(0, .const (.int .i32 x.1)), (1, .const (.int .u8 x.2))], type := t, pos := pos, after := #[], guard := none }
def stOps (t : TypeId) (pos : String) : Nat → List (Int × Int) → List Oper
  | _, [] => []
  | d, x :: xs => stOp t pos d x :: stOps t pos (d + 1) xs

theorem wpList_sts (t : TypeId) (pos : String) (hb : ∀ x y : Int, P.built t [(0, .int .i32 x), (1, .int .u8 y)] = some #[.int .i32 x, .int .u8 y]) :
    ∀ (xs : List (Int × Int)) (d : Nat) (a : Act), d + xs.length ≤ a.tmps.size →
      (∀ a' : Act, a'.tmps.size = a.tmps.size → a'.defers = a.defers → (∀ i (h : i < xs.length), a'.eval (.tmp (d + i)) = .agg (cells2 xs[i]).toArray) →
        (∀ j, j < d → a'.eval (.tmp j) = a.eval (.tmp j)) → wpList P ops Q rest a' w) →
      wpList P ops Q (stOps t pos d xs ++ rest) a w
  | [], d, a, _, h => h a rfl rfl (fun i hi => absurd hi (by simp)) (fun _ _ => rfl)
  | x :: xs, d, a, hd, h => by
    have hlt : d < a.tmps.size := by simp at hd; omega
    show wpList P ops Q (stOp t pos d x :: (stOps t pos (d + 1) xs ++ rest)) a w
    refine wpList_buildTo rfl t _ rfl (some d) rfl (cells2 x).toArray (by simpa [Act.eval, cells2] using hb x.1 x.2) ?_
    refine wpList_sts t pos hb xs (d + 1) _ (by rw [Act.size_put]; simp at hd; omega) fun a' hs hdf hev hlow => ?_
    refine h a' (hs.trans (Act.size_put _ _ _)) (hdf.trans (Act.defers_put' _ _ _)) (fun i hi => ?_) (fun j hj => ?_)
    · cases i with
      | zero => rw [Nat.add_zero, hlow d (by omega), Act.eval_put_same _ _ _ hlt]; rfl
      | succ i =>
        have := hev i (by simpa using hi)
        rw [show d + (i + 1) = d + 1 + i by omega, this]
        rfl
    · rw [hlow j (by omega), Act.eval_put_ne _ _ _ _ (by omega)]

/-- the cells of a table -/
def tcells (T : List (Int × Int)) : List Value := T.flatMap cells2
theorem tcells_length (T : List (Int × Int)) : (tcells T).length = T.length * 2 := by
  induction T with
  | nil => rfl
  | cons x T ih => simp only [tcells, List.flatMap_cons, List.length_append] at *; rw [ih]; simp [cells2]; omega
theorem tcells_get (T : List (Int × Int)) : ∀ i, i < T.length → (tcells T)[i * 2]? = some (.int .i32 (T.getD i (0, 0)).1) ∧ (tcells T)[i * 2 + 1]? = some (.int .u8 (T.getD i (0, 0)).2) := by
  induction T with
  | nil => intro i h; simp at h
  | cons x T ih =>
    intro i h
    cases i with
    | zero => exact ⟨rfl, rfl⟩
    | succ i =>
      have := ih i (by simpa using h)
      simp only [tcells, List.flatMap_cons, cells2, List.cons_append, List.nil_append] at this ⊢
      rw [show (i + 1) * 2 = i * 2 + 1 + 1 by omega]
      exact this
theorem tcells_one (T : List (Int × Int)) : (tcells T).toArray.all (·.oneCell') = true := by
  rw [Array.all_eq_true_iff_forall_mem]
  intro v hv
  simp only [tcells, List.mem_toArray, List.mem_flatMap] at hv
  obtain ⟨x, _, hx⟩ := hv
  simp only [cells2, List.mem_cons, List.not_mem_nil, or_false] at hx
  rcases hx with rfl | rfl <;> rfl

/-- THE ARRAY OVER THEM. -/
theorem wpList_buildArr2 (hg : o.guard = none) (t e : TypeId) (n : Nat) (parts : Array (Nat × Operand)) (T : List (Int × Int)) (ho : o.op = .build t parts) (d : Nat) (dst : Option Tmp) (hdst : o.dst = dst)
    (hu : P.underlying t = some (.array n e)) (hsz : (P.info? e).map (·.size) = some 2) (hz : ((P.info? t).bind (·.zero)).map (·.cells.size) = some (T.length * 2))
    (hparts : parts.toList = (List.range T.length).map fun i => (i, Operand.tmp (d + i)))
    (hev : ∀ i (h : i < T.length), a.eval (.tmp (d + i)) = .agg (cells2 T[i]).toArray)
    (h : wpList P ops Q rest (a.put dst (.agg (tcells T).toArray)) w) : wpList P ops Q (o :: rest) a w := by
  refine wpList_buildTo hg t parts ho dst hdst (tcells T).toArray ?_ h
  cases hie : P.info? e with
  | none => simp [hie] at hsz
  | some ie =>
    cases hit : P.info? t with
    | none => simp [hit] at hz
    | some it =>
      cases hzz : it.zero with
      | none => simp [hit, hzz] at hz
      | some z =>
        simp only [hie, hit, hzz, Option.map_some, Option.some.injEq, Option.bind_some] at hsz hz
        unfold Program.built
        simp only [hit, hu, hzz, hie]
        have e1 : (parts.map fun (i, x) => (i, a.eval x)).toList = ((T.map fun x => Value.agg (cells2 x).toArray).zipIdx 0).map fun x => (x.2, x.1) := by
          rw [Array.toList_map, hparts, List.map_map]
          apply List.ext_getElem
          · simp
          · intro i h1 h2
            have hi : i < T.length := by simpa using h1
            simp only [List.getElem_map, List.getElem_range, Function.comp, List.getElem_zipIdx, Nat.zero_add]
            rw [hev i hi]
        rw [e1, hsz]
        have := fill_whole (s := 2) (by omega) (T.map fun x => Value.agg (cells2 x).toArray) z.cells
          (fun v hv => by obtain ⟨x, _, rfl⟩ := List.mem_map.1 hv; rfl) (by simp [hz])
        rw [this]
        congr 2
        simp [tcells, List.flatMap_map, Value.cells]

theorem wpList_mv (hg : o.guard = none) (dst : Option Tmp) (hdst : o.dst = dst) (x : Operand) (ho : o.op = .move x ∨ o.op = .assign x)
    (h : wpList P ops Q rest (a.put dst (a.eval x)) w) : wpList P ops Q (o :: rest) a w := by
  refine wpList_runTo hg dst hdst _ w ?_ h
  rcases ho with ho | ho <;> simp [execOp, ho]

theorem wpList_ext (hg : o.guard = none) (dst : Option Tmp) (hdst : o.dst = dst) (x : Operand) (i : Nat) (ho : o.op = .extract x i) (vs : Array Value) (v : Value)
    (hx : a.eval x = .tuple vs) (hv : vs[i]? = some v)
    (h : wpList P ops Q rest (a.put dst v) w) : wpList P ops Q (o :: rest) a w := by
  refine wpList_runTo hg dst hdst v w ?_ h
  simp [execOp, ho, hx, Instr.extract, hv]

/-- the whole of a new array's block, sliced -/
theorem wpList_sliceArr (hg : o.guard = none) (dst : Option Tmp) (hdst : o.dst = dst) (t e n : Nat) (x : Operand) (ho : o.op = .slice t x none none none) (g : Nat)
    (hu : P.underlying t = some (.array n e)) (hi : (P.info? e).isSome = true) (hx : a.eval x = .pointer (some ⟨g, 0, none⟩))
    (h : wpList P ops Q rest (a.put dst (.slice (some ⟨g, 0, none⟩) n n)) w) : wpList P ops Q (o :: rest) a w := by
  obtain ⟨ie, hie⟩ := Option.isSome_iff_exists.1 hi
  refine wpList_runTo hg dst hdst _ w ?_ h
  simp [execOp, ho, hx, Instr.sliceAt, run_underlying hu, Instr.sureAddr, Instr.sliceBounds, sizeOf, typeInfo, hie]
  intro _; rfl

theorem wpList_allocZ (hg : o.guard = none) (dst : Option Tmp) (hdst : o.dst = dst) (t : TypeId) (ho : o.op = .alloc t) (N : Nat) (hN : w.heap.size = N) (z : Value) (hz : (P.info? t).bind (·.zero) = some z)
    (h : wpList P ops Q rest (a.put dst (.pointer (some ⟨N, 0, none⟩))) (w.alloc (.cells z.cells t))) : wpList P ops Q (o :: rest) a w := by
  subst hN
  refine wpList_runTo hg dst hdst _ _ ?_ h
  cases hi : P.info? t with
  | none => simp [hi] at hz
  | some i =>
    simp only [hi, Option.bind_some] at hz
    simp [execOp, ho, Instr.alloc, zeroValue, typeInfo, hi, hz, newVar, newRow]


/-- a call of a named function with two arguments whose post is a tuple of two -/
theorem wpList_call2 (hg : o.guard = none) (dst : Option Tmp) (hdst : o.dst = dst) (f : FuncId) (x y : Operand) (hexec : execOp a.eval o = callFunc f #[a.eval x, a.eval y])
    (hcall : ∀ (args : Array Value) (w : World), (callFunc f args).run P w = .ok (.enter f args) w) {R : Ending → World → Prop} (hc : Calls P f #[a.eval x, a.eval y] w R)
    (h : ∀ e w', R e w' → ∃ v, e = .returned v ∧ wpList P ops Q rest (a.put dst v) w') : wpList P ops Q (o :: rest) a w := by
  subst hdst
  refine wpList_plain hg fun K hK => ?_
  unfold Oper.wp
  rw [hexec, hcall, Oper.upon_enter]
  refine hc.mono fun e w' hR => ?_
  obtain ⟨v, rfl, hw⟩ := h e w' hR
  exact hK _ _ hw

/-- where a table's steps stand in the text: read off the function's own second region -/
def regionsOf : Code → List (Array Oper)
  | .region _ ops _ => [ops]
  | .seq x y => regionsOf x ++ regionsOf y
  | .scope x => regionsOf x
  | .block _ x => regionsOf x
  | .loop x => regionsOf x
  | .cond _ x y => regionsOf x ++ regionsOf y
  | _ => []
def posOf (f : Func) : String := (((regionsOf (f.body.getD .skip)).getD 1 #[]).getD 0 default).pos

theorem wp_frame0 {c : Code} (n : Nat) (v : Value) (hs : a.tmps.size = n) (hd : a.defers = []) (h0 : a.eval (.tmp 0) = v)
    (h : ∀ a' : Act, a'.tmps.size = n → a'.defers = [] → a'.eval (.tmp 0) = v → c.wp P Q a' w) : c.wp P Q a w := h a hs hd h0
end
end Go.Proofs.Ytbhhebheclfdlaa
