/- The tied card of WrapAt, layer 14: at any rows and caret of bulk at most 1048576 the law answers true, what came in stays as it is. Condition: the listed tables stand as the text lays them (the card ties them). -/
import Derived.Test.YtphlhnkenehnnaaGreatDoorCards
import Derived.Test.YtphlhnkenehnnaaGreatDoorTie
import Derived.Test.YtphlhnkenehnnaaGreatDoorLaidC
import Derived.Test.YtphlhnkenehnnaaGreatDoorLawWA
import Derived.Test.YtphlhnkenehnnaaGreatDoorBulkV
import Derived.WalkKit
import Derived.ProofKit
import Derived.OpenShut
import Derived.ShutString
import Derived.ChangeOld
import Derived.Below
import Derived.Lib.SmallJoins
import Derived.JoinedCond
import Derived.Deep.DeepHandedRow
import Derived.Deep.Slices
namespace Go.Proofs.YtphlhnkenehnnaaGreatDoor.wrapAt
open Go.ChangeShapes Go.WideShapes Go.ChangeAt Go.RowKit
open Go.ChangeMaps (open_string shut_string)
open Go.Proofs.YtphlhnkenehnnaaGreatDoor.bulks Go.Proofs.YtphlhnkenehnnaaGreatDoor.laids
set_option linter.unusedVariables false
set_option linter.unusedSimpArgs false

theorem own : ownKnob Tryz.prog.godebug = none := by kernel_rfl
theorem laidOut : laidOutB Tryz.prog = true := by kernel_rfl
theorem list_len3 {α : Type} {l : List α} (h : l.length = 3) : ∃ a b c, l = [a, b, c] := by
  match l, h with
  | [a, b, c], _ => exact ⟨a, b, c, rfl⟩
theorem fields_cells {P : Program} {H : Type} {enc : TypeId × Value → H} {w : World} {base : Nat} {spare : Nat → Bool} {held : Bool} {fuel : Nat} {t : TypeId} {fs : Array Field} {cs : List Value} {x : DataW H × List MemPlace}
    (hs : P.underlying t = some (.struct fs)) (hone : Deep.oneCellFields P fs = true) (h : DataW.trod enc P w base spare held fuel t cs = some x) :
    ∃ (ys : List (DataW H × List MemPlace)) (n : Nat), ys.length = fs.size ∧
      ∀ (i : Nat) (f : Field) (c : Value) (y : DataW H × List MemPlace), fs[i]? = some f → cs[i]? = some c → ys[i]? = some y → DataW.trod enc P w base spare held n f.type [c] = some y := by
  obtain ⟨ys, n, _, _, _, hlen, hg⟩ := DataW.trod_struct hs h
  refine ⟨ys, n, hlen, fun i f c y h1 h2 h3 => ?_⟩
  obtain ⟨o, k⟩ := Deep.hone_of hone i f h1
  have := hg i f h1
  rw [o, k] at this
  rw [h3] at this
  rw [← this]
  congr 1
  exact (drop_one cs i c h2).symm
theorem open_rows {H : Type} {enc : TypeId × Value → H} {W : World} {fuel : Nat} {cs : List Value} {x : DataW H × List MemPlace} (h : DataW.trod enc Tryz.prog W 0 (fun _ => true) true fuel 25 cs = some x) :
    cs = [.slice none 0 0] ∨ ∃ (a : Addr) (len cap : Nat) (l : List RowV), cs = [.slice (some a) len cap] ∧ len ≤ cap ∧ l.length = len ∧ RdR W (some a) l ∧ cap ≤ Rows.uptoBulk x.1 := by
  rcases Deep.open_slice Tryz.underlying25 h with ⟨h0, _⟩ | ⟨a, len, cap, m, n, D, Pl, rfl, _, hl, _, hm, rfl, hx⟩
  · exact .inl h0
  right
  have c5 : Tryz.prog.cellsOf 30 = 5 := by kernel_rfl
  have hmc : m = cap := by rw [hm]; rfl
  subst hmc
  clear hm
  have each : ∀ i, i < m → ∃ r : RowV, ∀ k v, (rcell r)[k]? = some v → W.cell? ((a.add (i * 5)).add k) = some v := by
    intro i hi
    obtain ⟨cs', h1, h2⟩ := hx i hi
    rw [c5] at h1
    obtain ⟨_, hlen, hcell⟩ := World.cells?_some h1
    obtain ⟨ys, n', hyl, hf⟩ := fields_cells Tryz.underlying30 (by kernel_rfl) h2
    obtain ⟨e0, e1, e2, e3, e4, rfl⟩ := list_len5 hlen
    obtain ⟨y0, y1, y2, y3, y4, rfl⟩ := list_len5 hyl
    obtain ⟨a0, g0, _, _⟩ := DataW.trod_int Tryz.underlying3 (hf 0 _ _ _ rfl rfl rfl)
    obtain ⟨a1, g1, _, _⟩ := DataW.trod_int Tryz.underlying3 (hf 1 _ _ _ rfl rfl rfl)
    obtain ⟨a2, g2, _, _⟩ := DataW.trod_int Tryz.underlying5 (hf 2 _ _ _ rfl rfl rfl)
    obtain ⟨a3, g3, _, _⟩ := DataW.trod_int Tryz.underlying3 (hf 3 _ _ _ rfl rfl rfl)
    obtain ⟨a4, g4, _, _⟩ := DataW.trod_int Tryz.underlying22 (hf 4 _ _ _ rfl rfl rfl)
    obtain rfl : e0 = .int .i64 a0 := by simpa using g0
    obtain rfl : e1 = .int .i64 a1 := by simpa using g1
    obtain rfl : e2 = .int .u8 a2 := by simpa using g2
    obtain rfl : e3 = .int .i64 a3 := by simpa using g3
    obtain rfl : e4 = .int .i8 a4 := by simpa using g4
    refine ⟨⟨a0, a1, a2, a3, a4⟩, fun k v hv => ?_⟩
    have hk : k < 5 := (List.getElem?_eq_some_iff.1 hv).1
    rw [hcell k hk]
    exact hv
  obtain ⟨R, hR⟩ : ∃ R : Nat → RowV, ∀ i, i < m → ∀ k v, (rcell (R i))[k]? = some v → W.cell? ((a.add (i * 5)).add k) = some v :=
    ⟨fun i => if h : i < m then Classical.choose (each i h) else ⟨0, 0, 0, 0, 0⟩, fun i hi => by simp only [dif_pos hi]; exact Classical.choose_spec (each i hi)⟩
  refine ⟨a, len, m, (List.range len).map R, rfl, hl, by simp, ?_, ?_⟩
  · by_cases h0 : len = 0
    · subst h0; exact .inl rfl
    · have hc := hR 0 (by omega) 0 _ rfl
      obtain ⟨b, off, spot⟩ := a
      have hspot : spot = none := by simpa [Addr.add] using World.cell?_spot hc
      subst hspot
      rw [Nat.zero_mul, Addr.add_lit, Addr.add_lit] at hc
      refine .inr ⟨b, off, rfl, cell_lt hc, fun i r hi k v hv => ?_⟩
      have hil : i < len := by simpa using (List.getElem?_eq_some_iff.1 hi).1
      obtain rfl : R i = r := by
        rw [List.getElem?_map, List.getElem?_range hil] at hi
        simpa using hi
      have := hR i (by omega) k v hv
      rw [Addr.add_lit, Addr.add_lit] at this
      exact this
  · have := slice_le (H := H) ((List.range len).map D) ((List.range (m - len)).map fun j => D (len + j))
    rw [List.length_map, List.length_map, List.length_range, List.length_range] at this
    show m ≤ Rows.uptoBulk (DataW.slice _ _)
    omega
set_option maxRecDepth 100000 in
theorem contract (H : Type) (enc : TypeId × Value → H) (W : World) (base : Nat) (args : Array Value) (ds gs : List (DataW H)) (before : List MemPlace)
    (hval0 : ∀ (j : Nat) t v, Tryz.f4.params[j]? = some t → args[j]? = some v → Value.okWide Tryz.prog W .any base t v)
    (hW : DataW.Whole enc Tryz.prog Tryz.f4.params.toList Rows.wrapAtSpec.vars false W args.toList ds gs before) (hk : Rows.uptoSmall H (ds ++ gs) = true) (hL : laidMetH Tryz.prog Rows.wrapAtUptoRow.laid W) :
    Calls Tryz.prog 4 args W fun e W' => ∃ v, e = .returned v ∧ Rows.wrapAtSpec.post enc Tryz.prog Tryz.f4 false true false false W args v W' := by
  have hval : ∀ (j : Nat) t v, Tryz.f4.params[j]? = some t → args[j]? = some v → Value.okWide Tryz.prog W .any base t v := hval0
  have hW' := hW
  obtain ⟨p, q, hA0, hV, rfl, hfz, hnd⟩ := hW
  have hA : DataW.TrodAll enc Tryz.prog W 0 (fun _ => true) true Tryz.f4.params.toList args.toList ds p := hA0
  rw [Tryz.params4] at hA hval
  obtain ⟨v0, vs0, d0, ds0, p0, q0, hargs, rfl, rfl, h0, r0⟩ := trodAll_cons hA
  obtain ⟨v1, vs1, d1, ds1, p1, q1, rfl, rfl, rfl, h1, r1⟩ := trodAll_cons r0
  obtain ⟨rfl, rfl, rfl⟩ := trodAll_nil r1
  obtain rfl : args = #[v0, v1] := by cases args; simp_all
  obtain ⟨rfl, rfl⟩ := trodVars_none hV
  have k0 := h0
  have lt0 : ∀ x ∈ p0, x.block < W.heap.size := by obtain ⟨m, hm⟩ := k0; exact DataW.trod_lt m _ _ _ hm
  have k1 := h1
  have lt1 : ∀ x ∈ p1, x.block < W.heap.size := by obtain ⟨m, hm⟩ := k1; exact DataW.trod_lt m _ _ _ hm
  obtain ⟨a0, len0, cap0, rfl⟩ := okWide_slice Tryz.underlying25 (hval 0 25 v0 rfl rfl)
  obtain ⟨l0, hl0, hrd0, hlc0, hb0⟩ : ∃ l : List RowV, l.length = len0 ∧ RdR W a0 l ∧ len0 ≤ cap0 ∧ cap0 ≤ Rows.uptoBulk d0 := by
    obtain ⟨fuel, hf⟩ := h0
    rcases open_rows hf with hcs | ⟨a, len, cap, l, hcs, h1, h2, h3, h4⟩
    · simp [Value.cells] at hcs
      obtain ⟨rfl, rfl, rfl⟩ := hcs
      exact ⟨[], rfl, .inl rfl, Nat.le_refl _, Nat.zero_le _⟩
    · simp [Value.cells] at hcs
      obtain ⟨rfl, rfl, rfl⟩ := hcs
      exact ⟨l, h2, h3, h1, h4⟩
  have hcap : cap0 ≤ 1048576 := by
    have hbd := bound hk
    simp only [Rows.uptoBulkAll, List.cons_append, List.nil_append, List.append_nil] at hbd
    omega
  obtain ⟨cs3, ys3, n3, rfl, g3d, hcl3, hyl3, hf3⟩ := fields_open (P := Tryz.prog) Tryz.underlying34 (by kernel_rfl) (by kernel_rfl) (hval 1 34 v1 rfl rfl) h1
  obtain ⟨e3_0, e3_1, e3_2, rfl⟩ := list_len3 hcl3
  obtain ⟨y3_0, y3_1, y3_2, rfl⟩ := list_len3 hyl3
  have t3_0 := hf3 0 _ _ _ rfl rfl rfl
  obtain ⟨a3_0, hc3_0, _, _⟩ := DataW.trod_int Tryz.underlying3 t3_0
  obtain rfl : e3_0 = .int .i64 a3_0 := by simpa using hc3_0
  have t3_1 := hf3 1 _ _ _ rfl rfl rfl
  obtain ⟨a3_1, hc3_1, _⟩ := DataW.trod_bool Tryz.underlying4 t3_1
  obtain rfl : e3_1 = .bool a3_1 := by simpa using hc3_1
  have t3_2 := hf3 2 _ _ _ rfl rfl rfl
  obtain ⟨a3_2, hc3_2, _, _⟩ := DataW.trod_int Tryz.underlying3 t3_2
  obtain rfl : e3_2 = .int .i64 a3_2 := by simpa using hc3_2
  clear hA0 hval0
  obtain ⟨hT, hD⟩ := tabs_of hL
  refine (LawWA_any a0 cap0 len0 l0 hl0 (by omega) a3_0 a3_2 a3_1 W hT hD hrd0 hlc0).mono fun e W' ⟨he, bel⟩ => ?_
  subst he
  exact ⟨_, rfl, _, _, _, [], _, [], hW', trodAll_mk1 (shut_bool Tryz.underlying4 _), (trodAll_cons_mk (Below.trod laidOut (by kernel_rfl) (of_decide_eq_true (by kernel_rfl)) k0 bel lt0) (trodAll_cons_mk (Below.trod laidOut (by kernel_rfl) (of_decide_eq_true (by kernel_rfl)) k1 bel lt1) trodAll_mk0)), rfl, bel.frame _, fun h => by cases h⟩

def wArgs : Array Value := #[.slice none 0 0, .agg #[.int .i64 0, .bool false, .int .i64 0]]
theorem reads (os : Os) {H : Type} (enc : TypeId × Value → H) : ∃ x, DataW.whole enc Tryz.prog ((laidWorld os).forCall (fun _ _ => 0) ⟨#[], wArgs, []⟩).memory Tryz.f4.params.toList Rows.wrapAtSpec.vars false wArgs.toList 8 =
    some ([.nil, .agg [.lit (.int .i64 0), .lit (.bool false), .lit (.int .i64 0)]], [], x) := ⟨[], by kernel_rfl⟩
set_option maxRecDepth 100000 in
theorem lifted (os : Os) (started : os.Started) (H : Type) (enc : TypeId × Value → H) (F : Stop.Interp) :
    ReturnsInHanded {} Tryz.checked os 4 .any ((Rows.OpenSpec.upto Rows.wrapAtSpec).preRow enc Tryz.prog Tryz.f4 Rows.wrapAtUptoRow.domain false Rows.wrapAtUptoRow.laid) (((Rows.OpenSpec.upto Rows.wrapAtSpec).at F).post enc Tryz.prog Tryz.f4 false true false false) := by
  obtain ⟨places, hx⟩ := reads os enc
  refine returnsInHanded_of_row (C := Tryz.checked) (s := Rows.OpenSpec.upto Rows.wrapAtSpec) own started (by kernel_rfl) Tryz.func4
    (witness_row_at (enc := enc) (C := Tryz.checked) false (laidWorld os) wArgs rfl (by kernel_rfl) (by kernel_rfl) (by kernel_rfl)
      (OpenSpec.preRow_of_cond 8 hx (by kernel_rfl) (fun k hk => by cases hk; kernel_rfl) (by kernel_rfl) (laid_met os _))) ?_
  intro W base args ds gs before hval hW _ hcond _ hL _ _
  exact contract H enc W base args ds gs before hval hW (hcond _ rfl) hL
theorem said : Rows.WrapAtUptoSaid :=
  OpenClaim.holds_of_cond 4 Tryz.f4 rfl rfl rfl rfl rfl rfl rfl ⟨rfl, rfl, rfl, rfl, rfl⟩ rfl rfl rfl rfl rfl (by kernel_rfl) Tryz.func4 (by kernel_rfl)
    (of_decide_eq_true (by kernel_rfl)) (by unfold Func.isWrapper; first | (rw [if_pos (by decide +kernel)]; kernel_rfl) | (rw [if_neg (by decide +kernel)]; exact ⟨rfl, rfl⟩))
    (fun os started H enc _ F => by rw [OpenClaim.pre_eq_preRow]; exact lifted os started H enc F)
theorem plain (f : FuncId) (fn : Func) (hf : Tryz.pinned.checked.prog.funcNamed "shuttle/shuttlelaw14.WrapAt" = some f) (hfn : Tryz.pinned.checked.prog.funcs[f]? = some fn) :
    false = Tryz.pinned.checked.prog.looks [] ∧ ∀ (j : Nat) t, fn.params[j]? = some t → Tryz.pinned.checked.prog.wantsStandIn t = false := by
  obtain rfl : f = 4 := Option.some.inj ((show Tryz.prog.funcNamed "shuttle/shuttlelaw14.WrapAt" = some 4 by kernel_rfl).symm.trans hf) |>.symm
  obtain rfl : fn = Tryz.f4 := (Option.some.inj (Tryz.func4.symm.trans hfn)).symm
  refine ⟨by kernel_rfl, fun j t ht => ?_⟩
  rw [Tryz.params4] at ht
  have hm : t ∈ [25, 34] := by simpa using Array.mem_of_getElem? ht
  have hall : ([25, 34].all fun u => !Tryz.prog.wantsStandIn u) = true := by kernel_rfl
  exact (show Tryz.prog.wantsStandIn t = false by simpa using List.all_eq_true.1 hall t hm)
theorem proved : Rows.WrapAtUptoCardSaid :=
  Claim7.holds_tied_plain_at .later [] _ _ _ _ said (fun _ h => by cases h) (by kernel_rfl) (fun _ h => by cases h) wrapAtUpto_row_tie rfl ⟨rfl, rfl⟩ (by kernel_rfl) rfl plain (by kernel_rfl)
#print axioms proved
end Go.Proofs.YtphlhnkenehnnaaGreatDoor.wrapAt
