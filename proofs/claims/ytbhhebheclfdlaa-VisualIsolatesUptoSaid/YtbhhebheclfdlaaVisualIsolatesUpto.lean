/- At all lines with an isolate and all wants the law VisualIsolates of layer 10 answers true: what stands in the isolate changes no level outside of it; what came in stays as it is. Condition: the bulk of what comes in is 1048576 at most. -/
import Derived.Test.YtbhhebheclfdlaaRows
import Derived.WalkKit
import Derived.ProofKit
import Derived.OpenShut
import Derived.ShutString
import Derived.ChangeOld
import Derived.Below
import Derived.Lib.SmallJoins
import Derived.JoinedCond
import Derived.Test.YtbhhebheclfdlaaBulk
import Derived.Test.YtbhhebheclfdlaaLawVI
namespace Go.Proofs.Ytbhhebheclfdlaa.visualIsolates
open Go.ChangeShapes Go.WideShapes Go.ChangeAt Go.RowKit
open Go.ChangeMaps (open_string shut_string)
open Go.Proofs.Ytbhhebheclfdlaa.bulks
set_option linter.unusedVariables false
set_option linter.unusedSimpArgs false

theorem own : ownKnob Try.prog.godebug = none := by kernel_rfl
theorem laidOut : laidOutB Try.prog = true := by kernel_rfl

theorem walk (a0_0 : Option Addr) (len0_0 cap0_0 : Nat) (z0_0 : List Int) (a0_1 : Option Addr) (len0_1 cap0_1 : Nat) (z0_1 : List Int) (a0_2 : Option Addr) (len0_2 cap0_2 : Nat) (z0_2 : List Int) (a0_3 : Option Addr) (len0_3 cap0_3 : Nat) (z0_3 : List Int) (a0_4 : Int) (a1 : Int) (w : World) (w0_0 : IsRow .i32 w a0_0 len0_0 cap0_0 z0_0) (b0_0 : cap0_0 ≤ 1048576) (w0_1 : IsRow .i32 w a0_1 len0_1 cap0_1 z0_1) (b0_1 : cap0_1 ≤ 1048576) (w0_2 : IsRow .i32 w a0_2 len0_2 cap0_2 z0_2) (b0_2 : cap0_2 ≤ 1048576) (w0_3 : IsRow .i32 w a0_3 len0_3 cap0_3 z0_3) (b0_3 : cap0_3 ≤ 1048576) (w0_4 : (Lit.int .i64 a0_4).wf = true) (w1 : (Lit.int .i8 a1).wf = true) :
    Calls Try.prog 9 #[.agg #[.slice a0_0 len0_0 cap0_0, .slice a0_1 len0_1 cap0_1, .slice a0_2 len0_2 cap0_2, .slice a0_3 len0_3 cap0_3, .int .i64 a0_4], .int .i8 a1] w fun e w' => e = .returned (.bool true) ∧ Below w.heap.size w w' := by
  obtain ⟨r0, n0, c0, m0⟩ := w0_0.rd
  obtain ⟨r1, n1, c1, m1⟩ := w0_1.rd
  obtain ⟨r2, n2, c2, m2⟩ := w0_2.rd
  obtain ⟨r3, n3, c3, m3⟩ := w0_3.rd
  exact LawVI_any a0_0 a0_1 a0_2 a0_3 (z0_0.take len0_0) (z0_1.take len0_1) (z0_2.take len0_2) (z0_3.take len0_3) len0_0 cap0_0 len0_1 cap0_1 len0_2 cap0_2 len0_3 cap0_3 a0_4 a1 w n0 r0 n1 r1 n2 r2 n3 r3 (by omega) (by omega) (by omega) (by omega) c0

set_option maxRecDepth 100000 in
theorem contract (H : Type) (enc : TypeId × Value → H) (W : World) (base : Nat) (args : Array Value) (ds gs : List (DataW H)) (before : List MemPlace)
    (hval0 : ∀ (j : Nat) t v, Try.f9.params[j]? = some t → args[j]? = some v → Value.okWide Try.prog W .any base t v)
    (hW : DataW.Whole enc Try.prog Try.f9.params.toList Rows.visualIsolatesSpec.vars false W args.toList ds gs before) (hk : Rows.uptoSmall H (ds ++ gs) = true) :
    Calls Try.prog 9 args W fun e W' => ∃ v, e = .returned v ∧ Rows.visualIsolatesSpec.post enc Try.prog Try.f9 false true false false W args v W' := by
  have hval : ∀ (j : Nat) t v, Try.f9.params[j]? = some t → args[j]? = some v → Value.okWide Try.prog W .any base t v := hval0
  have hW' := hW
  obtain ⟨p, q, hA0, hV, rfl, hfz, hnd⟩ := hW
  have hA : DataW.TrodAll enc Try.prog W 0 (fun _ => true) true Try.f9.params.toList args.toList ds p := hA0
  rw [Try.params9] at hA hval
  obtain ⟨v0, vs0, d0, ds0, p0, q0, hargs, rfl, rfl, h0, r0⟩ := trodAll_cons hA
  obtain ⟨v1, vs1, d1, ds1, p1, q1, rfl, rfl, rfl, h1, r1⟩ := trodAll_cons r0
  obtain ⟨rfl, rfl, rfl⟩ := trodAll_nil r1
  obtain rfl : args = #[v0, v1] := by cases args; simp_all
  obtain ⟨rfl, rfl⟩ := trodVars_none hV
  have k0 := h0
  have lt0 : ∀ x ∈ p0, x.block < W.heap.size := by obtain ⟨m, hm⟩ := k0; exact DataW.trod_lt m _ _ _ hm
  obtain ⟨cs0, ys0, n0, rfl, g0d, hcl0, hyl0, hf0⟩ := fields_open (P := Try.prog) Try.underlying47 (by kernel_rfl) (by kernel_rfl) (hval 0 47 v0 rfl rfl) h0
  obtain ⟨e0_0, e0_1, e0_2, e0_3, e0_4, rfl⟩ := list_len5 hcl0
  obtain ⟨y0_0, y0_1, y0_2, y0_3, y0_4, rfl⟩ := list_len5 hyl0
  have t0_0 := hf0 0 _ _ _ rfl rfl rfl
  obtain ⟨a0_0, len0_0, cap0_0, hc0_0⟩ := Joins.slice_form Try.underlying22 t0_0
  obtain rfl : e0_0 = .slice a0_0 len0_0 cap0_0 := by simpa using hc0_0
  obtain ⟨z0_0, w0_0, bb0_0⟩ : ∃ zs, IsRow .i32 W a0_0 len0_0 cap0_0 zs ∧ cap0_0 ≤ Rows.uptoBulk y0_0.1 := by
    rcases open_ints Try.underlying22 Try.underlying21 (by kernel_rfl) t0_0 with ⟨hcs, _⟩ | ⟨x, l, c, zs, hcs, _, hl, hm, hz, hx, hcell, hwz⟩
    · simp at hcs
      obtain ⟨rfl, rfl, rfl⟩ := hcs
      exact ⟨[], .inl ⟨rfl, rfl, rfl, rfl⟩, Nat.zero_le _⟩
    · simp at hcs
      obtain ⟨rfl, rfl, rfl⟩ := hcs
      exact ⟨zs, .inr ⟨_, rfl, hl, hm, by simpa using hz, hcell, hwz⟩, bulk_ints (by simpa using hz) hl (congrArg Prod.fst hx)⟩
  have t0_1 := hf0 1 _ _ _ rfl rfl rfl
  obtain ⟨a0_1, len0_1, cap0_1, hc0_1⟩ := Joins.slice_form Try.underlying22 t0_1
  obtain rfl : e0_1 = .slice a0_1 len0_1 cap0_1 := by simpa using hc0_1
  obtain ⟨z0_1, w0_1, bb0_1⟩ : ∃ zs, IsRow .i32 W a0_1 len0_1 cap0_1 zs ∧ cap0_1 ≤ Rows.uptoBulk y0_1.1 := by
    rcases open_ints Try.underlying22 Try.underlying21 (by kernel_rfl) t0_1 with ⟨hcs, _⟩ | ⟨x, l, c, zs, hcs, _, hl, hm, hz, hx, hcell, hwz⟩
    · simp at hcs
      obtain ⟨rfl, rfl, rfl⟩ := hcs
      exact ⟨[], .inl ⟨rfl, rfl, rfl, rfl⟩, Nat.zero_le _⟩
    · simp at hcs
      obtain ⟨rfl, rfl, rfl⟩ := hcs
      exact ⟨zs, .inr ⟨_, rfl, hl, hm, by simpa using hz, hcell, hwz⟩, bulk_ints (by simpa using hz) hl (congrArg Prod.fst hx)⟩
  have t0_2 := hf0 2 _ _ _ rfl rfl rfl
  obtain ⟨a0_2, len0_2, cap0_2, hc0_2⟩ := Joins.slice_form Try.underlying22 t0_2
  obtain rfl : e0_2 = .slice a0_2 len0_2 cap0_2 := by simpa using hc0_2
  obtain ⟨z0_2, w0_2, bb0_2⟩ : ∃ zs, IsRow .i32 W a0_2 len0_2 cap0_2 zs ∧ cap0_2 ≤ Rows.uptoBulk y0_2.1 := by
    rcases open_ints Try.underlying22 Try.underlying21 (by kernel_rfl) t0_2 with ⟨hcs, _⟩ | ⟨x, l, c, zs, hcs, _, hl, hm, hz, hx, hcell, hwz⟩
    · simp at hcs
      obtain ⟨rfl, rfl, rfl⟩ := hcs
      exact ⟨[], .inl ⟨rfl, rfl, rfl, rfl⟩, Nat.zero_le _⟩
    · simp at hcs
      obtain ⟨rfl, rfl, rfl⟩ := hcs
      exact ⟨zs, .inr ⟨_, rfl, hl, hm, by simpa using hz, hcell, hwz⟩, bulk_ints (by simpa using hz) hl (congrArg Prod.fst hx)⟩
  have t0_3 := hf0 3 _ _ _ rfl rfl rfl
  obtain ⟨a0_3, len0_3, cap0_3, hc0_3⟩ := Joins.slice_form Try.underlying22 t0_3
  obtain rfl : e0_3 = .slice a0_3 len0_3 cap0_3 := by simpa using hc0_3
  obtain ⟨z0_3, w0_3, bb0_3⟩ : ∃ zs, IsRow .i32 W a0_3 len0_3 cap0_3 zs ∧ cap0_3 ≤ Rows.uptoBulk y0_3.1 := by
    rcases open_ints Try.underlying22 Try.underlying21 (by kernel_rfl) t0_3 with ⟨hcs, _⟩ | ⟨x, l, c, zs, hcs, _, hl, hm, hz, hx, hcell, hwz⟩
    · simp at hcs
      obtain ⟨rfl, rfl, rfl⟩ := hcs
      exact ⟨[], .inl ⟨rfl, rfl, rfl, rfl⟩, Nat.zero_le _⟩
    · simp at hcs
      obtain ⟨rfl, rfl, rfl⟩ := hcs
      exact ⟨zs, .inr ⟨_, rfl, hl, hm, by simpa using hz, hcell, hwz⟩, bulk_ints (by simpa using hz) hl (congrArg Prod.fst hx)⟩
  have t0_4 := hf0 4 _ _ _ rfl rfl rfl
  obtain ⟨a0_4, hc0_4, _, w0_4⟩ := DataW.trod_int Try.underlying3 t0_4
  obtain rfl : e0_4 = .int .i64 a0_4 := by simpa using hc0_4
  obtain ⟨a1, rfl, rfl, rfl, w1⟩ := open_int Try.underlying40 (hval 1 40 v1 rfl rfl) h1
  clear hA0 hval0
  have hb0_0 : cap0_0 ≤ 1048576 := by
    have hbd := bound hk
    rw [g0d] at hbd
    simp only [Rows.uptoBulkAll, Rows.uptoBulk, List.map_cons, List.map_nil, List.cons_append, List.nil_append, List.append_nil] at hbd
    omega
  have hb0_1 : cap0_1 ≤ 1048576 := by
    have hbd := bound hk
    rw [g0d] at hbd
    simp only [Rows.uptoBulkAll, Rows.uptoBulk, List.map_cons, List.map_nil, List.cons_append, List.nil_append, List.append_nil] at hbd
    omega
  have hb0_2 : cap0_2 ≤ 1048576 := by
    have hbd := bound hk
    rw [g0d] at hbd
    simp only [Rows.uptoBulkAll, Rows.uptoBulk, List.map_cons, List.map_nil, List.cons_append, List.nil_append, List.append_nil] at hbd
    omega
  have hb0_3 : cap0_3 ≤ 1048576 := by
    have hbd := bound hk
    rw [g0d] at hbd
    simp only [Rows.uptoBulkAll, Rows.uptoBulk, List.map_cons, List.map_nil, List.cons_append, List.nil_append, List.append_nil] at hbd
    omega
  refine (walk a0_0 len0_0 cap0_0 z0_0 a0_1 len0_1 cap0_1 z0_1 a0_2 len0_2 cap0_2 z0_2 a0_3 len0_3 cap0_3 z0_3 a0_4 a1 W w0_0 hb0_0 w0_1 hb0_1 w0_2 hb0_2 w0_3 hb0_3 w0_4 w1).mono fun e W' ⟨he, bel⟩ => ?_
  subst he
  exact ⟨_, rfl, _, _, _, [], _, [], hW', trodAll_mk1 (shut_bool Try.underlying4 _), (trodAll_cons_mk (Below.trod laidOut (by kernel_rfl) (of_decide_eq_true (by kernel_rfl)) k0 bel lt0) (trodAll_cons_mk (shut_int Try.underlying40 w1) trodAll_mk0)), rfl, bel.frame _, fun h => by cases h⟩

set_option maxRecDepth 100000 in
theorem lifted (os : Os) (started : os.Started) (H : Type) (enc : TypeId × Value → H) (F : Stop.Interp) :
    ReturnsInHanded {} Try.checked os 9 .any ((Rows.OpenSpec.upto Rows.visualIsolatesSpec).pre6 enc Try.prog Try.f9 Rows.visualIsolatesUptoRow.domain false) (((Rows.OpenSpec.upto Rows.visualIsolatesSpec).at F).post enc Try.prog Try.f9 false true false false) := by
  refine returnsInHanded_of_cond (C := Try.checked) (s := Rows.OpenSpec.upto Rows.visualIsolatesSpec) (k := Rows.uptoSmall) rfl own started (by kernel_rfl) Try.func9
    (OpenSpec.witness (enc := enc) (C := Try.checked) (s := Rows.OpenSpec.upto Rows.visualIsolatesSpec) (k := Rows.uptoSmall) rfl false ⟨#[], #[.agg #[.slice none 0 0, .slice none 0 0, .slice none 0 0, .slice none 0 0, .int .i64 0], .int .i8 0], []⟩ 8 (by kernel_rfl) (by kernel_rfl) (by kernel_rfl)
      (x := ([.agg [.nil, .nil, .nil, .nil, .lit (.int .i64 0)], .lit (.int .i8 0)], [], [])) (by kernel_rfl) rfl (by kernel_rfl)) ?_
  intro W base args ds gs before hval hW _ hk _
  exact contract H enc W base args ds gs before hval hW hk

theorem over : Rows.visualIsolatesUptoRow.holds Try.pinned (Rows.OpenSpec.upto Rows.visualIsolatesSpec) :=
  OpenClaim.holds_of_cond 9 Try.f9 rfl rfl rfl rfl rfl rfl rfl ⟨rfl, rfl, rfl, rfl, rfl⟩ rfl rfl rfl rfl rfl (by kernel_rfl) Try.func9 (by kernel_rfl)
    (of_decide_eq_true (by kernel_rfl)) (by unfold Func.isWrapper; first | (rw [if_pos (by decide +kernel)]; kernel_rfl) | (rw [if_neg (by decide +kernel)]; exact ⟨rfl, rfl⟩))
    (fun os started H enc _ F => lifted os started H enc F)

theorem proved : Rows.VisualIsolatesUptoSaid := over
#print axioms proved
end Go.Proofs.Ytbhhebheclfdlaa.visualIsolates
